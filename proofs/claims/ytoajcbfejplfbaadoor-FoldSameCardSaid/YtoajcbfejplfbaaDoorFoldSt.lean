/- What a step writes; whether it does nothing else; what is learned of it. Conditions: what is asked lies. -/
import Derived.Test.YtoajcbfejplfbaaDoorFoldMap
import Derived.Test.YtoajcbfejplfbaaDoorMidBoth
namespace Go.Proofs.YtoajcbfejplfbaaDoor.MidP
open Go.RowKit Go.Proofs.YtoajcbfejplfbaaDoor.Wo Go.Maps Go.Proofs.YtoajcbfejplfbaaDoor.TreeP
set_option linter.unusedVariables false
set_option linter.unusedSimpArgs false
set_option maxRecDepth 100000 in
set_option maxHeartbeats 1000000 in
theorem writes_any (s : Stp) (v : Value) (S : Nat → Prop) (W : World) (h : StpV W S s v) :
    Calls Tryd.prog 60 #[v] W fun e w => e = .returned (.int .i64 (writesP s)) ∧ Mods None W w := by
  obtain ⟨aa, ac, rfl, -⟩ := h
  obtain ⟨xc, xd, xa, xb, xe, xn, xo, xl, xm, xs⟩ := s
  obtain ⟨an, han⟩ : ∃ an, an = xs.length := ⟨_, rfl⟩
  simp only
  rw [← han]
  clear han
  unfold writesP
  simp only
  by_cases hc : xc = 1 ∨ xc = 2 ∨ xc = 3 ∨ xc = 7 ∨ xc = 9 ∨ xc = 10 ∨ xc = 11 ∨ xc = 14
  · rw [if_pos hc]
    unfold stpL str
    rcases hc with rfl | rfl | rfl | rfl | rfl | rfl | rfl | rfl
    all_goals
      go_enter Tryd.func60, Tryd.ntmps60
      go_wp2_with fail
      go_ret
      exact ⟨rfl, (Mods.refl _ _).alloc _⟩
  · rw [if_neg hc]
    unfold stpL str
    have h1 : (xc == 1) = false := by simp; omega
    have h2 : (xc == 2) = false := by simp; omega
    have h3 : (xc == 3) = false := by simp; omega
    have h7 : (xc == 7) = false := by simp; omega
    have h9 : (xc == 9) = false := by simp; omega
    have h10 : (xc == 10) = false := by simp; omega
    have h11 : (xc == 11) = false := by simp; omega
    have h14 : (xc == 14) = false := by simp; omega
    clear hc
    go_enter Tryd.func60, Tryd.ntmps60
    go_wp2_with fail
    go_ret
    exact ⟨rfl, (Mods.refl _ _).alloc _⟩
set_option maxRecDepth 100000 in
set_option maxHeartbeats 1000000 in
theorem pure_any (s : Stp) (v : Value) (S : Nat → Prop) (W : World) (h : StpV W S s v) :
    Calls Tryd.prog 61 #[v] W fun e w => e = .returned (.bool (pureP s)) ∧ Mods None W w := by
  obtain ⟨aa, ac, rfl, -⟩ := h
  obtain ⟨xc, xd, xa, xb, xe, xn, xo, xl, xm, xs⟩ := s
  obtain ⟨an, han⟩ : ∃ an, an = xs.length := ⟨_, rfl⟩
  simp only
  rw [← han]
  clear han
  unfold pureP
  simp only
  by_cases hc : xc = 1 ∨ xc = 2 ∨ xc = 10
  · rw [show (xc == 1 || xc == 2 || xc == 10 || (xc == 3 && xo != [47] && xo != [37])) = true by rcases hc with h | h | h <;> simp [h]]
    unfold stpL str
    rcases hc with rfl | rfl | rfl
    all_goals
      go_enter Tryd.func61, Tryd.ntmps61
      go_wp2_with fail
      go_ret
      exact ⟨rfl, (Mods.refl _ _).alloc _⟩
  · have h1 : (xc == 1) = false := by simp; omega
    have h2 : (xc == 2) = false := by simp; omega
    have h10 : (xc == 10) = false := by simp; omega
    rw [h1, h2, h10]
    simp only [Bool.false_or]
    by_cases h3 : xc = 3
    · subst h3
      have e0 : ((3 : Int) == 3) = true := rfl
      rw [e0]
      unfold stpL str
      simp only [Bool.true_and]
      by_cases d1 : xo = [47]
      · subst d1
        rw [show (([47] : List UInt8) != [47] && ([47] : List UInt8) != [37]) = false from rfl]
        have e2 : ((⟨#[47]⟩ : ByteArray) == ⟨#[47]⟩) = true := rfl
        have e3 : ((⟨#[47]⟩ : ByteArray) != ⟨#[47]⟩) = false := rfl
        clear h1 h2 h10 hc
        go_enter Tryd.func61, Tryd.ntmps61
        go_wp2_with fail
        go_ret
        exact ⟨rfl, (Mods.refl _ _).alloc _⟩
      · have e1 : (xo != [47]) = true := by simpa using d1
        have e2 : ((⟨xo.toArray⟩ : ByteArray) == ⟨#[47]⟩) = false := by
          rw [show (⟨#[47]⟩ : ByteArray) = ⟨([47] : List UInt8).toArray⟩ from rfl, str_beq]; simpa using d1
        rw [e1]
        simp only [Bool.true_and]
        by_cases d2 : xo = [37]
        · subst d2
          rw [show (([37] : List UInt8) != [37]) = false from rfl]
          have e3 : ((⟨#[37]⟩ : ByteArray) == ⟨#[37]⟩) = true := rfl
          have e4 : ((⟨#[37]⟩ : ByteArray) != ⟨#[37]⟩) = false := rfl
          clear h1 h2 h10 hc
          go_enter Tryd.func61, Tryd.ntmps61
          go_wp2_with fail
          go_ret
          exact ⟨rfl, (Mods.refl _ _).alloc _⟩
        · have e3 : (xo != [37]) = true := by simpa using d2
          have e4 : ((⟨xo.toArray⟩ : ByteArray) == ⟨#[37]⟩) = false := by
            rw [show (⟨#[37]⟩ : ByteArray) = ⟨([37] : List UInt8).toArray⟩ from rfl, str_beq]; simpa using d2
          rw [e3]
          clear h1 h2 h10 hc e1 e3
          go_enter Tryd.func61, Tryd.ntmps61
          go_wp2_with fail
          go_ret
          exact ⟨by simp [d1, d2], (Mods.refl _ _).alloc _⟩
    · have e3 : (xc == 3) = false := by simpa using h3
      rw [e3]
      unfold stpL str
      simp only [Bool.false_and]
      clear hc h3
      go_enter Tryd.func61, Tryd.ntmps61
      go_wp2_with fail
      go_ret
      exact ⟨rfl, (Mods.refl _ _).alloc _⟩
theorem KAt.more {W : World} {kb nb sb n m : Nat} {K : Kn} (h : KAt W kb nb sb n K) (hm : n ≤ m) : KAt W kb nb sb m K := ⟨h.blk, h.nums.more hm, h.same.more hm, h.ne, h.okn, h.oks⟩
theorem writes64 {s : Stp} (h : I64 s.dst) : I64 (writesP s) := by
  unfold writesP
  split
  · exact h
  · unfold I64; omega
set_option maxRecDepth 100000 in
set_option maxHeartbeats 2000000 in
theorem learn_any {W : World} {kb nb sb n : Nat} {K : Kn} (h : KAt W kb nb sb n K) (s : Stp) (v : Value) (S : Nat → Prop) (hv : StpV W S s v) (hd : I64 s.dst) (hn64 : I64 s.n) (ha : I64 s.a) (hn : n ≤ 1000000) :
    Calls Tryd.prog 63 #[.pointer (some ⟨kb, 0, none⟩), v] W fun e w => e = .returned (.tuple #[]) ∧ KAt w kb nb sb (n + 1) (K.learn s) ∧ Mods (fun k => k = nb ∨ k = sb) W w := by
  obtain ⟨aa, ac, rfl, hargs⟩ := hv
  obtain ⟨W1, hW1⟩ : ∃ W1, W1 = W.alloc (.cells (stpL s (.slice aa s.args.length ac)).toArray 44) := ⟨_, rfl⟩
  have hm1 : Mods None W W1 := by rw [hW1]; exact (Mods.refl _ _).alloc _
  have hb1 : Blk W1 W.heap.size (stpL s (.slice aa s.args.length ac)) 44 := by rw [hW1]; exact Blk.new W _ _
  have HWR := Lib.hid (writes_any s (.agg (stpL s (.slice aa s.args.length ac)).toArray) S W1 ⟨aa, ac, rfl, hargs.mods (hm1.mono fun _ _ f => f.elim) (fun _ _ k => k)⟩)
  have HK1 := Lib.hid (h.mods hm1 (fun f => f) (fun f => f) (fun f => f))
  have d0 := hb1.cell (i := 0) rfl
  have d1 := hb1.cell (i := 1) rfl
  have d2 := hb1.cell (i := 2) rfl
  have d3 := hb1.cell (i := 3) rfl
  have d4 := hb1.cell (i := 4) rfl
  have d5 := hb1.cell (i := 5) rfl
  have d6 := hb1.cell (i := 6) rfl
  have d7 := hb1.cell (i := 7) rfl
  have d8 := hb1.cell (i := 8) rfl
  have d9 := hb1.cell (i := 9) rfl
  have HB1 := Lib.hid hb1
  have HM1 := Lib.hid hm1
  have HL := Lib.hid (And.intro h.blk.lt (And.intro h.nums.lt h.same.lt))
  have HI := Lib.hid (And.intro hd (And.intro hn64 (And.intro ha hn)))
  obtain ⟨p, hp⟩ : ∃ p, p = writesP s := ⟨_, rfl⟩
  rw [← hp] at HWR
  have HP := Lib.hid hp
  obtain ⟨an, han⟩ : ∃ an, an = s.args.length := ⟨_, rfl⟩
  rw [← han] at d9 hW1 HWR ⊢
  have HAN := Lib.hid han
  obtain ⟨K2, hK2⟩ : ∃ K2, K2 = K.learn s := ⟨_, rfl⟩
  rw [← hK2]
  have HK2 := Lib.hid hK2
  clear hm1 hb1 hargs h hd hn64 ha hn hp han hK2
  unfold stpL str at *
  go_enter Tryd.func63, Tryd.ntmps63
  go_upto_region 1 with (fail)
  rw [← hW1]
  clear hW1
  go_wp2_with fail
  go_at_call 60
  refine HWR.out.mono ?_
  rintro e w2 ⟨rfl, hm2⟩
  have HM2 := Lib.hid hm2
  have HK2' := Lib.hid (HK1.out.mods hm2 (fun f => f) (fun f => f) (fun f => f))
  clear hm2 d0 d1 d2 d3 d4 d5 d6 d7 d8 d9 HWR
  by_cases hp0 : p < 0
  · have e : K2 = K := by rw [HK2.out]; unfold Kn.learn; rw [if_pos (by rw [← HP.out]; exact hp0)]
    subst e
    go_wp2_with fail
    refine bodyPost_ret (results_none rfl _ _ _) rfl ?_
    exact ⟨rfl, HK2'.out.more (by omega), (HM1.out.trans HM2.out).mono fun _ _ f => f.elim⟩
  · have hp1 : ¬ (p < 0) := hp0
    have hp64 : I64 p := by rw [HP.out]; exact writes64 HI.out.1
    have HF := Lib.hid (forget_any HK2'.out hp64)
    have HP64 := Lib.hid hp64
    clear hp64
    go_wp2_with fail
    go_at_call 83
    refine HF.out.mono ?_
    rintro e w3 ⟨rfl, hk3, hm3⟩
    have HK3 := Lib.hid hk3
    have hbx := HL.out
    have hb3 := (HB1.out.mods HM2.out (fun f => f)).mods hm3 (fun e => by omega)
    have d0 := hb3.cell (i := 0) rfl
    have d2 := hb3.cell (i := 2) rfl
    have d5 := hb3.cell (i := 5) rfl
    have HM3 := Lib.hid (((HM1.out.trans HM2.out).mono fun _ _ f => f.elim).trans hm3 : Mods (fun k => k = nb ∨ k = sb) W w3)
    have k0 := hk3.blk.cell (i := 0) rfl
    have k1 := hk3.blk.cell (i := 1) rfl
    have HNE := Lib.hid hk3.ne
    clear hk3 hm3 hb3 HF
    by_cases h1 : s.code = 1
    · have e : K2 = ⟨setO (K.forget p).nums p s.n, (K.forget p).same⟩ := by rw [HK2.out]; unfold Kn.learn; rw [← HP.out, if_neg (by omega), if_pos h1]
      subst e
      rw [h1] at d0
      obtain ⟨w4, hu, ho4, hm4⟩ := (HK3.out.nums.mods (Mods.refl None w3).drew (fun f => f)).put (t := 115) Tryd.underlying115 Tryd.underlying2 HP64.out HI.out.2.1 (by have := HI.out.2.2.2; unfold maxLen; omega)
      have HO4 := Lib.hid ho4
      have HM4 := Lib.hid hm4
      clear ho4 hm4 h1 hbx hp0
      go_wp2_with fail
      go_region
      go_wp2_with fail
      go_end0
      have hne := HNE.out
      have hm34 : Mods (· = nb) w3 w4 := (Mods.refl _ w3).drew.trans HM4.out
      refine ⟨rfl, ⟨HK3.out.blk.mods hm34 (fun e => hne.2.1 e), HO4.out, (HK3.out.same.mods hm34 (fun e => hne.1 e.symm)).more (by omega), hne, fun q x hq => ?_, HK3.out.oks⟩, HM3.out.trans (hm34.mono fun _ _ e => Or.inl e)⟩
      unfold setO at hq
      simp only at hq
      split at hq
      · obtain rfl := Option.some.inj hq
        exact HI.out.2.1
      · exact HK3.out.okn q x hq
    · have g1 : (s.code == 1) = false := by simpa using h1
      by_cases h2 : s.code = 2 ∧ s.a ≠ p
      · obtain ⟨h2, h3⟩ := h2
        have e : K2 = ⟨(K.forget p).nums, setO (K.forget p).same p s.a⟩ := by rw [HK2.out]; unfold Kn.learn; rw [← HP.out, if_neg (by omega), if_neg h1, if_pos ⟨h2, h3⟩]
        subst e
        rw [h2] at d0
        have g3 : (s.a == p) = false := by simpa using h3
        obtain ⟨w4, hu, ho4, hm4⟩ := (HK3.out.same.mods (Mods.refl None w3).drew (fun f => f)).put (t := 72) Tryd.underlying72 Tryd.underlying3 HP64.out HI.out.2.2.1 (by have := HI.out.2.2.2; unfold maxLen; omega)
        have HO4 := Lib.hid ho4
        have HM4 := Lib.hid hm4
        clear ho4 hm4 h1 h2 h3 g1 hbx hp0
        go_wp2_with fail
        go_region
        go_wp2_with fail
        go_end0
        have hne := HNE.out
        have hm34 : Mods (· = sb) w3 w4 := (Mods.refl _ w3).drew.trans HM4.out
        refine ⟨rfl, ⟨HK3.out.blk.mods hm34 (fun e => hne.2.2 e), (HK3.out.nums.mods hm34 (fun e => hne.1 e)).more (by omega), HO4.out, hne, HK3.out.okn, fun q x hq => ?_⟩, HM3.out.trans (hm34.mono fun _ _ e => Or.inr e)⟩
        unfold setO at hq
        simp only at hq
        split at hq
        · obtain rfl := Option.some.inj hq
          exact HI.out.2.2.1
        · exact HK3.out.oks q x hq
      · have e : K2 = K.forget p := by rw [HK2.out]; unfold Kn.learn; rw [← HP.out, if_neg (by omega), if_neg h1, if_neg h2]
        subst e
        by_cases h4 : s.code = 2
        · have h5 : s.a = p := Classical.byContradiction fun h => h2 ⟨h4, h⟩
          have g5 : (s.a == p) = true := by simpa using h5
          rw [h4] at d0
          rw [h5] at d2
          clear h1 h2 h4 h5 g1 g5 hbx hp0
          go_wp2_with fail
          go_end0
          exact ⟨rfl, HK3.out.more (by omega), HM3.out⟩
        · have g4 : (s.code == 2) = false := by simpa using h4
          clear h1 h2 h4 hbx hp0
          go_wp2_with fail
          go_end0
          exact ⟨rfl, HK3.out.more (by omega), HM3.out⟩
end Go.Proofs.YtoajcbfejplfbaaDoor.MidP

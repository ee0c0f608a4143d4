/- What a step writes; whether it does nothing else; what is learned of it. Conditions: what is asked lies. Rows of steps of one's own; copies of rows. Conditions: what is asked lies. -/
import Derived.Test.YtoajcbfejplfbaaDoorFoldMap
import Derived.Test.YtoajcbfejplfbaaDoorMidBoth
import Derived.Laws.AppendOwnNone
import Derived.Test.YtoajcbfejplfbaaDoorNums
namespace Go.Proofs.YtoajcbfejplfbaaDoor.MidP
open Go.RowKit Go.Proofs.YtoajcbfejplfbaaDoor.Wo Go.Maps Go.Proofs.YtoajcbfejplfbaaDoor.TreeP
set_option linter.unusedVariables false
set_option linter.unusedSimpArgs false
set_option maxRecDepth 100000 in
set_option maxHeartbeats 1000000 in
theorem writes_any (s : Stp) (v : Value) (S : Nat → Prop) (W : World) (h : StpV W S s v) :
    Calls Tryd.prog 60 #[v] W fun e w => e = .returned (.int .i64 (writesP s)) ∧ Mods None W w := by
  obtain ⟨aa, ac, rfl, -⟩ := h
  obtain ⟨xc, xd, xa, xb, xe, xn, xo, xl, xm, xs⟩ := s
  obtain ⟨an, han⟩ : ∃ an, an = xs.length := ⟨_, rfl⟩
  simp only
  rw [← han]
  clear han
  unfold writesP
  simp only
  by_cases hc : xc = 1 ∨ xc = 2 ∨ xc = 3 ∨ xc = 7 ∨ xc = 9 ∨ xc = 10 ∨ xc = 11 ∨ xc = 14
  · rw [if_pos hc]
    unfold stpL str
    rcases hc with rfl | rfl | rfl | rfl | rfl | rfl | rfl | rfl
    all_goals
      go_enter Tryd.func60, Tryd.ntmps60
      go_wp2_with fail
      go_ret
      exact ⟨rfl, (Mods.refl _ _).alloc _⟩
  · rw [if_neg hc]
    unfold stpL str
    have h1 : (xc == 1) = false := by simp; omega
    have h2 : (xc == 2) = false := by simp; omega
    have h3 : (xc == 3) = false := by simp; omega
    have h7 : (xc == 7) = false := by simp; omega
    have h9 : (xc == 9) = false := by simp; omega
    have h10 : (xc == 10) = false := by simp; omega
    have h11 : (xc == 11) = false := by simp; omega
    have h14 : (xc == 14) = false := by simp; omega
    clear hc
    go_enter Tryd.func60, Tryd.ntmps60
    go_wp2_with fail
    go_ret
    exact ⟨rfl, (Mods.refl _ _).alloc _⟩
set_option maxRecDepth 100000 in
set_option maxHeartbeats 1000000 in
theorem pure_any (s : Stp) (v : Value) (S : Nat → Prop) (W : World) (h : StpV W S s v) :
    Calls Tryd.prog 61 #[v] W fun e w => e = .returned (.bool (pureP s)) ∧ Mods None W w := by
  obtain ⟨aa, ac, rfl, -⟩ := h
  obtain ⟨xc, xd, xa, xb, xe, xn, xo, xl, xm, xs⟩ := s
  obtain ⟨an, han⟩ : ∃ an, an = xs.length := ⟨_, rfl⟩
  simp only
  rw [← han]
  clear han
  unfold pureP
  simp only
  by_cases hc : xc = 1 ∨ xc = 2 ∨ xc = 10
  · rw [show (xc == 1 || xc == 2 || xc == 10 || (xc == 3 && xo != [47] && xo != [37])) = true by rcases hc with h | h | h <;> simp [h]]
    unfold stpL str
    rcases hc with rfl | rfl | rfl
    all_goals
      go_enter Tryd.func61, Tryd.ntmps61
      go_wp2_with fail
      go_ret
      exact ⟨rfl, (Mods.refl _ _).alloc _⟩
  · have h1 : (xc == 1) = false := by simp; omega
    have h2 : (xc == 2) = false := by simp; omega
    have h10 : (xc == 10) = false := by simp; omega
    rw [h1, h2, h10]
    simp only [Bool.false_or]
    by_cases h3 : xc = 3
    · subst h3
      have e0 : ((3 : Int) == 3) = true := rfl
      rw [e0]
      unfold stpL str
      simp only [Bool.true_and]
      by_cases d1 : xo = [47]
      · subst d1
        rw [show (([47] : List UInt8) != [47] && ([47] : List UInt8) != [37]) = false from rfl]
        have e2 : ((⟨#[47]⟩ : ByteArray) == ⟨#[47]⟩) = true := rfl
        have e3 : ((⟨#[47]⟩ : ByteArray) != ⟨#[47]⟩) = false := rfl
        clear h1 h2 h10 hc
        go_enter Tryd.func61, Tryd.ntmps61
        go_wp2_with fail
        go_ret
        exact ⟨rfl, (Mods.refl _ _).alloc _⟩
      · have e1 : (xo != [47]) = true := by simpa using d1
        have e2 : ((⟨xo.toArray⟩ : ByteArray) == ⟨#[47]⟩) = false := by
          rw [show (⟨#[47]⟩ : ByteArray) = ⟨([47] : List UInt8).toArray⟩ from rfl, str_beq]; simpa using d1
        rw [e1]
        simp only [Bool.true_and]
        by_cases d2 : xo = [37]
        · subst d2
          rw [show (([37] : List UInt8) != [37]) = false from rfl]
          have e3 : ((⟨#[37]⟩ : ByteArray) == ⟨#[37]⟩) = true := rfl
          have e4 : ((⟨#[37]⟩ : ByteArray) != ⟨#[37]⟩) = false := rfl
          clear h1 h2 h10 hc
          go_enter Tryd.func61, Tryd.ntmps61
          go_wp2_with fail
          go_ret
          exact ⟨rfl, (Mods.refl _ _).alloc _⟩
        · have e3 : (xo != [37]) = true := by simpa using d2
          have e4 : ((⟨xo.toArray⟩ : ByteArray) == ⟨#[37]⟩) = false := by
            rw [show (⟨#[37]⟩ : ByteArray) = ⟨([37] : List UInt8).toArray⟩ from rfl, str_beq]; simpa using d2
          rw [e3]
          clear h1 h2 h10 hc e1 e3
          go_enter Tryd.func61, Tryd.ntmps61
          go_wp2_with fail
          go_ret
          exact ⟨by simp [d1, d2], (Mods.refl _ _).alloc _⟩
    · have e3 : (xc == 3) = false := by simpa using h3
      rw [e3]
      unfold stpL str
      simp only [Bool.false_and]
      clear hc h3
      go_enter Tryd.func61, Tryd.ntmps61
      go_wp2_with fail
      go_ret
      exact ⟨rfl, (Mods.refl _ _).alloc _⟩
theorem KAt.more {W : World} {kb nb sb n m : Nat} {K : Kn} (h : KAt W kb nb sb n K) (hm : n ≤ m) : KAt W kb nb sb m K := ⟨h.blk, h.nums.more hm, h.same.more hm, h.ne, h.okn, h.oks⟩
theorem writes64 {s : Stp} (h : I64 s.dst) : I64 (writesP s) := by
  unfold writesP
  split
  · exact h
  · unfold I64; omega
set_option maxRecDepth 100000 in
set_option maxHeartbeats 2000000 in
theorem learn_any {W : World} {kb nb sb n : Nat} {K : Kn} (h : KAt W kb nb sb n K) (s : Stp) (v : Value) (S : Nat → Prop) (hv : StpV W S s v) (hd : I64 s.dst) (hn64 : I64 s.n) (ha : I64 s.a) (hn : n ≤ 1000000) :
    Calls Tryd.prog 63 #[.pointer (some ⟨kb, 0, none⟩), v] W fun e w => e = .returned (.tuple #[]) ∧ KAt w kb nb sb (n + 1) (K.learn s) ∧ Mods (fun k => k = nb ∨ k = sb) W w := by
  obtain ⟨aa, ac, rfl, hargs⟩ := hv
  obtain ⟨W1, hW1⟩ : ∃ W1, W1 = W.alloc (.cells (stpL s (.slice aa s.args.length ac)).toArray 44) := ⟨_, rfl⟩
  have hm1 : Mods None W W1 := by rw [hW1]; exact (Mods.refl _ _).alloc _
  have hb1 : Blk W1 W.heap.size (stpL s (.slice aa s.args.length ac)) 44 := by rw [hW1]; exact Blk.new W _ _
  have HWR := Lib.hid (writes_any s (.agg (stpL s (.slice aa s.args.length ac)).toArray) S W1 ⟨aa, ac, rfl, hargs.mods (hm1.mono fun _ _ f => f.elim) (fun _ _ k => k)⟩)
  have HK1 := Lib.hid (h.mods hm1 (fun f => f) (fun f => f) (fun f => f))
  have d0 := hb1.cell (i := 0) rfl
  have d1 := hb1.cell (i := 1) rfl
  have d2 := hb1.cell (i := 2) rfl
  have d3 := hb1.cell (i := 3) rfl
  have d4 := hb1.cell (i := 4) rfl
  have d5 := hb1.cell (i := 5) rfl
  have d6 := hb1.cell (i := 6) rfl
  have d7 := hb1.cell (i := 7) rfl
  have d8 := hb1.cell (i := 8) rfl
  have d9 := hb1.cell (i := 9) rfl
  have HB1 := Lib.hid hb1
  have HM1 := Lib.hid hm1
  have HL := Lib.hid (And.intro h.blk.lt (And.intro h.nums.lt h.same.lt))
  have HI := Lib.hid (And.intro hd (And.intro hn64 (And.intro ha hn)))
  obtain ⟨p, hp⟩ : ∃ p, p = writesP s := ⟨_, rfl⟩
  rw [← hp] at HWR
  have HP := Lib.hid hp
  obtain ⟨an, han⟩ : ∃ an, an = s.args.length := ⟨_, rfl⟩
  rw [← han] at d9 hW1 HWR ⊢
  have HAN := Lib.hid han
  obtain ⟨K2, hK2⟩ : ∃ K2, K2 = K.learn s := ⟨_, rfl⟩
  rw [← hK2]
  have HK2 := Lib.hid hK2
  clear hm1 hb1 hargs h hd hn64 ha hn hp han hK2
  unfold stpL str at *
  go_enter Tryd.func63, Tryd.ntmps63
  go_upto_region 1 with (fail)
  rw [← hW1]
  clear hW1
  go_wp2_with fail
  go_at_call 60
  refine HWR.out.mono ?_
  rintro e w2 ⟨rfl, hm2⟩
  have HM2 := Lib.hid hm2
  have HK2' := Lib.hid (HK1.out.mods hm2 (fun f => f) (fun f => f) (fun f => f))
  clear hm2 d0 d1 d2 d3 d4 d5 d6 d7 d8 d9 HWR
  by_cases hp0 : p < 0
  · have e : K2 = K := by rw [HK2.out]; unfold Kn.learn; rw [if_pos (by rw [← HP.out]; exact hp0)]
    subst e
    go_wp2_with fail
    refine bodyPost_ret (results_none rfl _ _ _) rfl ?_
    exact ⟨rfl, HK2'.out.more (by omega), (HM1.out.trans HM2.out).mono fun _ _ f => f.elim⟩
  · have hp1 : ¬ (p < 0) := hp0
    have hp64 : I64 p := by rw [HP.out]; exact writes64 HI.out.1
    have HF := Lib.hid (forget_any HK2'.out hp64)
    have HP64 := Lib.hid hp64
    clear hp64
    go_wp2_with fail
    go_at_call 83
    refine HF.out.mono ?_
    rintro e w3 ⟨rfl, hk3, hm3⟩
    have HK3 := Lib.hid hk3
    have hbx := HL.out
    have hb3 := (HB1.out.mods HM2.out (fun f => f)).mods hm3 (fun e => by omega)
    have d0 := hb3.cell (i := 0) rfl
    have d2 := hb3.cell (i := 2) rfl
    have d5 := hb3.cell (i := 5) rfl
    have HM3 := Lib.hid (((HM1.out.trans HM2.out).mono fun _ _ f => f.elim).trans hm3 : Mods (fun k => k = nb ∨ k = sb) W w3)
    have k0 := hk3.blk.cell (i := 0) rfl
    have k1 := hk3.blk.cell (i := 1) rfl
    have HNE := Lib.hid hk3.ne
    clear hk3 hm3 hb3 HF
    by_cases h1 : s.code = 1
    · have e : K2 = ⟨setO (K.forget p).nums p s.n, (K.forget p).same⟩ := by rw [HK2.out]; unfold Kn.learn; rw [← HP.out, if_neg (by omega), if_pos h1]
      subst e
      rw [h1] at d0
      obtain ⟨w4, hu, ho4, hm4⟩ := (HK3.out.nums.mods (Mods.refl None w3).drew (fun f => f)).put (t := 115) Tryd.underlying115 Tryd.underlying2 HP64.out HI.out.2.1 (by have := HI.out.2.2.2; unfold maxLen; omega)
      have HO4 := Lib.hid ho4
      have HM4 := Lib.hid hm4
      clear ho4 hm4 h1 hbx hp0
      go_wp2_with fail
      go_region
      go_wp2_with fail
      go_end0
      have hne := HNE.out
      have hm34 : Mods (· = nb) w3 w4 := (Mods.refl _ w3).drew.trans HM4.out
      refine ⟨rfl, ⟨HK3.out.blk.mods hm34 (fun e => hne.2.1 e), HO4.out, (HK3.out.same.mods hm34 (fun e => hne.1 e.symm)).more (by omega), hne, fun q x hq => ?_, HK3.out.oks⟩, HM3.out.trans (hm34.mono fun _ _ e => Or.inl e)⟩
      unfold setO at hq
      simp only at hq
      split at hq
      · obtain rfl := Option.some.inj hq
        exact HI.out.2.1
      · exact HK3.out.okn q x hq
    · have g1 : (s.code == 1) = false := by simpa using h1
      by_cases h2 : s.code = 2 ∧ s.a ≠ p
      · obtain ⟨h2, h3⟩ := h2
        have e : K2 = ⟨(K.forget p).nums, setO (K.forget p).same p s.a⟩ := by rw [HK2.out]; unfold Kn.learn; rw [← HP.out, if_neg (by omega), if_neg h1, if_pos ⟨h2, h3⟩]
        subst e
        rw [h2] at d0
        have g3 : (s.a == p) = false := by simpa using h3
        obtain ⟨w4, hu, ho4, hm4⟩ := (HK3.out.same.mods (Mods.refl None w3).drew (fun f => f)).put (t := 72) Tryd.underlying72 Tryd.underlying3 HP64.out HI.out.2.2.1 (by have := HI.out.2.2.2; unfold maxLen; omega)
        have HO4 := Lib.hid ho4
        have HM4 := Lib.hid hm4
        clear ho4 hm4 h1 h2 h3 g1 hbx hp0
        go_wp2_with fail
        go_region
        go_wp2_with fail
        go_end0
        have hne := HNE.out
        have hm34 : Mods (· = sb) w3 w4 := (Mods.refl _ w3).drew.trans HM4.out
        refine ⟨rfl, ⟨HK3.out.blk.mods hm34 (fun e => hne.2.2 e), (HK3.out.nums.mods hm34 (fun e => hne.1 e)).more (by omega), HO4.out, hne, HK3.out.okn, fun q x hq => ?_⟩, HM3.out.trans (hm34.mono fun _ _ e => Or.inr e)⟩
        unfold setO at hq
        simp only at hq
        split at hq
        · obtain rfl := Option.some.inj hq
          exact HI.out.2.2.1
        · exact HK3.out.oks q x hq
      · have e : K2 = K.forget p := by rw [HK2.out]; unfold Kn.learn; rw [← HP.out, if_neg (by omega), if_neg h1, if_neg h2]
        subst e
        by_cases h4 : s.code = 2
        · have h5 : s.a = p := Classical.byContradiction fun h => h2 ⟨h4, h⟩
          have g5 : (s.a == p) = true := by simpa using h5
          rw [h4] at d0
          rw [h5] at d2
          clear h1 h2 h4 h5 g1 g5 hbx hp0
          go_wp2_with fail
          go_end0
          exact ⟨rfl, HK3.out.more (by omega), HM3.out⟩
        · have g4 : (s.code == 2) = false := by simpa using h4
          clear h1 h2 h4 hbx hp0
          go_wp2_with fail
          go_end0
          exact ⟨rfl, HK3.out.more (by omega), HM3.out⟩
end Go.Proofs.YtoajcbfejplfbaaDoor.MidP
namespace Go.Proofs.YtoajcbfejplfbaaDoor.MidP
open Go.RowKit Go.Proofs.YtoajcbfejplfbaaDoor.Wo Go.Maps Go.Proofs.YtoajcbfejplfbaaDoor.TreeP
set_option linter.unusedVariables false
set_option linter.unusedSimpArgs false
theorem int_info : (Tryd.prog.info? 3).map (fun i => (i.zero, i.size, i.bytes)) = some (some (.int .i64 0), 1, 8) := by kernel_rfl
def zeroStp : Value := .agg #[.int .i64 0, .int .i64 0, .int .i64 0, .int .i64 0, .int .i64 0, .int .i64 0, .string ⟨#[]⟩, .int .i64 0, .string ⟨#[]⟩, .slice none 0 0]
theorem stp_info : (Tryd.prog.info? 44).map (fun i => (i.zero, i.size, i.bytes)) = some (some zeroStp, 10, 112) := by kernel_rfl
/-- Steps, cell by cell. -/
def RelS (W : World) (S : Nat → Prop) (cs : List Value) (l : List Stp) : Prop := ∀ (i : Nat) (x : Stp), l[i]? = some x → ∃ av, (∀ k u, (stpL x av)[k]? = some u → cs[i * 10 + k]? = some u) ∧ IntsAt W S av x.args
theorem RelS.mods {W W' : World} {S T : Nat → Prop} {cs : List Value} {l : List Stp} (h : RelS W S cs l) (hm : Mods S W W') (hT : ∀ k, k < W.heap.size → T k → S k) : RelS W' T cs l := fun i x hx => by
  obtain ⟨av, h1, h2⟩ := h i x hx
  exact ⟨av, h1, h2.mods hm hT⟩
theorem stpL_len (x : Stp) (av : Value) : (stpL x av).length = 10 := rfl
theorem RelS.grow {W : World} {S : Nat → Prop} {cs : List Value} {l : List Stp} (h : RelS W S cs l) (hl : cs.length = l.length * 10) {x : Stp} {av : Value} (hx : IntsAt W S av x.args) : RelS W S (cs ++ stpL x av) (l ++ [x]) := fun i y hy => by
  rcases Nat.lt_or_ge i l.length with hi | hi
  · rw [List.getElem?_append_left hi] at hy
    obtain ⟨bv, h1, h2⟩ := h i y hy
    refine ⟨bv, fun k u hk => ?_, h2⟩
    have hk10 : k < 10 := by
      have := (List.getElem?_eq_some_iff.1 hk).1
      rwa [stpL_len] at this
    rw [List.getElem?_append_left (by omega)]
    exact h1 k u hk
  · rw [List.getElem?_append_right hi] at hy
    obtain ⟨hi2, hy⟩ := List.getElem?_eq_some_iff.1 hy
    simp only [List.length_singleton] at hi2
    obtain rfl : i = l.length := by omega
    simp only [Nat.sub_self, List.getElem_cons_zero] at hy
    subst hy
    refine ⟨av, fun k u hk => ?_, hx⟩
    rw [List.getElem?_append_right (by omega), show l.length * 10 + k - cs.length = k by omega]
    exact hk
/-- Steps in a row of one's own. -/
def OwnS (W : World) (base : Nat) (v : Value) (l : List Stp) : Prop := ∃ cs, W.ownsRow base 44 10 v l.length cs ∧ RelS W None cs l
theorem OwnS.none_ (W : World) (base : Nat) : OwnS W base (.slice none 0 0) [] := ⟨[], World.ownsRow_nil _ _ _ _, fun i x hx => by simp at hx⟩
theorem OwnS.mods {W W' : World} {S : Nat → Prop} {base : Nat} {v : Value} {l : List Stp} (h : OwnS W base v l) (hm : Mods None W W') : OwnS W' base v l := by
  obtain ⟨cs, h1, h2⟩ := h
  exact ⟨cs, hm.ownsRow h1 (fun _ _ f => f), h2.mods hm (fun _ _ f => f)⟩
/-- Steps of one's own are steps that are only read. -/
theorem OwnS.at_ {W : World} {base : Nat} {v : Value} {l : List Stp} (h : OwnS W base v l) : StpsAt W None v l := by
  obtain ⟨cs, h1, h2⟩ := h
  rcases h1.2 with ⟨hv, h0⟩ | ⟨g, cap, cur, hv, h3, h4, h5, h6, h7, h8⟩
  · obtain rfl : l = [] := List.eq_nil_of_length_eq_zero h0
    exact ⟨none, 0, hv, Nat.zero_le _, Nat.zero_le _, fun _ => rfl, fun i s hs => by simp at hs⟩
  · refine ⟨_, cap, hv, h5, h6, (fun h => by cases h), fun i s hs => ?_⟩
    obtain ⟨av, k1, k2⟩ := h2 i s hs
    have hc : ∀ k u, (stpL s av)[k]? = some u → W.cell? ⟨g, 0 + i * 10 + k, none⟩ = some u := fun k u hk => by
      have := h1.cells (g := g) (by rw [hv]; rfl) (i * 10 + k) u (k1 k u hk)
      rw [add_plain] at this
      rw [Nat.add_assoc]
      exact this
    exact ⟨g, 0, av, rfl, (fun f => f), ⟨hc 0 _ rfl, hc 1 _ rfl, hc 2 _ rfl, hc 3 _ rfl, hc 4 _ rfl, hc 5 _ rfl, hc 6 _ rfl, hc 7 _ rfl, hc 8 _ rfl, hc 9 _ rfl⟩, k2⟩
/-- Steps that are only read, cell by cell. -/
theorem stps_cells {W : World} {S : Nat → Prop} {g o c : Nat} {l : List Stp} (h : StpsAt W S (.slice (some ⟨g, o, none⟩) l.length c) l) : ∃ cs : List Value, cs.length = l.length * 10 ∧ (∀ j u, cs[j]? = some u → W.cell? ⟨g, o + j, none⟩ = some u) ∧ RelS W S cs l ∧ ∀ u ∈ cs, u.oneCell' = true := by
  obtain ⟨a, c', h1, -, -, -, h6⟩ := h
  obtain ⟨rfl, -, rfl⟩ := Value.slice.inj h1
  have key : ∀ m, m ≤ l.length → ∃ cs : List Value, cs.length = m * 10 ∧ (∀ j u, cs[j]? = some u → W.cell? ⟨g, o + j, none⟩ = some u) ∧ RelS W S cs (l.take m) ∧ ∀ u ∈ cs, u.oneCell' = true := by
    intro m
    induction m with
    | zero => intro _; exact ⟨[], rfl, fun j u hj => by simp at hj, fun i x hx => by simp at hx, fun u hu => by simp at hu⟩
    | succ m ih =>
      intro hm
      obtain ⟨cs, e1, e2, e3, e4⟩ := ih (by omega)
      have hml : m < l.length := by omega
      obtain ⟨g', o', av, k1, k2, k3, k4⟩ := h6 m l[m] (List.getElem?_eq_getElem hml)
      obtain ⟨rfl, rfl⟩ : g = g' ∧ o = o' := by simpa using k1
      obtain ⟨c0, c1, c2, c3, c4, c5, c6, c7, c8, c9⟩ := k3
      obtain ⟨aa, ac, hav, -⟩ := k4.form
      refine ⟨cs ++ stpL l[m] av, by rw [List.length_append, e1, stpL_len]; omega, fun j u hj => ?_, ?_, fun u hu => ?_⟩
      · rcases Nat.lt_or_ge j cs.length with hjl | hjl
        · rw [List.getElem?_append_left hjl] at hj
          exact e2 j u hj
        · rw [List.getElem?_append_right hjl] at hj
          obtain ⟨k, hk⟩ : ∃ k, k = j - cs.length := ⟨_, rfl⟩
          rw [← hk] at hj
          have hk10 : k < 10 := by
            have := (List.getElem?_eq_some_iff.1 hj).1
            rwa [stpL_len] at this
          have hjk : o + j = o + m * 10 + k := by omega
          rw [hjk]
          match k, hk10, hj with
          | 0, _, hj => cases hj; exact c0
          | 1, _, hj => cases hj; exact c1
          | 2, _, hj => cases hj; exact c2
          | 3, _, hj => cases hj; exact c3
          | 4, _, hj => cases hj; exact c4
          | 5, _, hj => cases hj; exact c5
          | 6, _, hj => cases hj; exact c6
          | 7, _, hj => cases hj; exact c7
          | 8, _, hj => cases hj; exact c8
          | 9, _, hj => cases hj; exact c9
      · rw [List.take_succ_eq_append_getElem hml]
        exact e3.grow (by rw [e1, List.length_take]; congr 1; omega) k4
      · rcases List.mem_append.1 hu with hu | hu
        · exact e4 u hu
        · rw [hav] at hu
          unfold stpL at hu
          simp only [List.mem_cons, List.not_mem_nil, or_false] at hu
          rcases hu with rfl | rfl | rfl | rfl | rfl | rfl | rfl | rfl | rfl | rfl <;> rfl
  have := key l.length (Nat.le_refl _)
  rwa [List.take_length] at this
theorem own_new (W : World) (e : TypeId) (size : Nat) (hs : 0 < size) : (W.alloc (.cells #[] e)).ownsRow W.heap.size e size (.slice (some ⟨W.heap.size, 0, none⟩) 0 0) 0 [] :=
  World.ownsRow_made (base := W.heap.size) (e := e) (size := size) W #[] 0 (Nat.le_refl _) (by decide) (by simp)
set_option maxRecDepth 100000 in
theorem clone_ints {W : World} {S : Nat → Prop} {v : Value} {l : List Int} (h : IntsAt W S v l) (hl : l.length ≤ 1000000) :
    Calls Tryd.prog 89 #[v] W fun e w => ∃ v', e = .returned v' ∧ w.ownsRow W.heap.size 3 1 v' l.length (l.map (.int .i64)) ∧ Mods None W w := by
  obtain ⟨a, c, rfl, hc1, hc2, hc3⟩ := h.form
  cases a with
  | none =>
    have h0 := hc3 rfl
    obtain rfl : l = [] := List.eq_nil_of_length_eq_zero h0
    have hq := fun w => Lib.run_eql_slice_nil (P := Tryd.prog) w 32 3 none 0 c 0 0 Tryd.underlying32
    clear h hl hc1 hc2 hc3 h0
    simp only [List.length_nil]
    go_enter Tryd.func89, Tryd.ntmps89
    go_wp2_with fail
    go_ret
    exact ⟨_, rfl, World.ownsRow_nil _ _ _ _, Mods.refl _ _⟩
  | some ad =>
    have hq := fun w => Lib.run_eql_slice_nil (P := Tryd.prog) w 32 3 (some ad) l.length c 0 0 Tryd.underlying32
    obtain ⟨i0, hi, hz0, hz1, hz2⟩ := info_parts int_info
    have HI := Lib.hid (And.intro hi (And.intro hz0 (And.intro hz1 hz2)))
    obtain ⟨W1, hW1⟩ : ∃ W1, W1 = W.alloc (.cells #[] 3) := ⟨_, rfl⟩
    have hm1 : Mods None W W1 := by rw [hW1]; exact (Mods.refl _ _).alloc _
    have HO1 := Lib.hid (show W1.ownsRow W.heap.size 3 1 (.slice (some ⟨W.heap.size, 0, none⟩) 0 0) 0 [] by rw [hW1]; exact own_new W 3 1 (by decide))
    have HS1 := Lib.hid hm1.size
    have HCS : Hid ((l.map (Value.int .i64)).length = l.length * 1 ∧ (∀ j u, (l.map (Value.int .i64))[j]? = some u → W1.cell? (ad.add j) = some u) ∧ ∀ u ∈ l.map (Value.int .i64), u.oneCell' = true) := Lib.hid (by
      refine ⟨by simp, fun j u hj => ?_, fun u hu => ?_⟩
      · rw [List.getElem?_map] at hj
        obtain ⟨x, hx, rfl⟩ := Option.map_eq_some_iff.1 hj
        obtain ⟨a', c', e1, -, -, -, e6⟩ := h
        obtain ⟨rfl, -, -⟩ := Value.slice.inj e1
        obtain ⟨g, o, k1, k2, k3⟩ := e6 j x hx
        cases k1
        rw [add_plain]
        exact hm1.cellOf k3 (fun f => f)
      · obtain ⟨x, -, rfl⟩ := List.mem_map.1 hu
        rfl)
    obtain ⟨cs, hcs⟩ : ∃ cs, cs = l.map (Value.int .i64) := ⟨_, rfl⟩
    have HM1 := Lib.hid hm1
    have HCE := Lib.hid hcs
    rw [← hcs] at HCS ⊢
    clear hcs
    obtain ⟨ln, hln⟩ : ∃ ln, ln = l.length := ⟨_, rfl⟩
    have HLN := Lib.hid hln
    have HLL := Lib.hid hl
    rw [← hln] at hq HCS
    rw [← hln]
    clear h hc1 hc2 hc3 hi hz0 hz1 hz2 hm1 hln hl
    go_enter Tryd.func89, Tryd.ntmps89
    go_wp2_with (at_builtin; rw [← hW1]; refine wpList_append_own_at _ rfl _ _ 32 rfl W.heap.size 3 i0 _ 1 8 Tryd.underlying32 HI.out.1 HI.out.2.1 HI.out.2.2.1 HI.out.2.2.2 rfl (by decide) (.slice (some ⟨W.heap.size, 0, none⟩) 0 0) 0 [] rfl HO1.out ad ln c cs rfl HCS.out.1 HCS.out.2.1 HCS.out.2.2 (by have := HLL.out; have := HLN.out; unfold maxLen; omega) (by have := HLL.out; have := HLN.out; omega) HS1.out ?_; intro v' w5 hown hgrow hnil hloc; have HOW := Lib.hid hown; have HGR := Lib.hid (And.intro hgrow hloc); clear hown hgrow hnil hloc)
    go_ret
    have hm : Mods None W w5 := HM1.out.trans' (Mods.of_grownBy (S := fun k => k = W.heap.size) HGR.out.1 (fun k hk _ => by simp only [Value.ownBlock, Option.some.injEq] at hk; exact hk.symm)) (fun k hk hl => by omega)
    have ho := HOW.out
    rw [Nat.zero_add, List.nil_append] at ho
    exact ⟨_, rfl, ho, hm⟩
set_option maxRecDepth 100000 in
theorem clone_steps {W : World} {S : Nat → Prop} {v : Value} {l : List Stp} (h : StpsAt W S v l) (hl : l.length ≤ 1000000) :
    Calls Tryd.prog 37 #[v] W fun e w => ∃ v', e = .returned v' ∧ OwnS w W.heap.size v' l ∧ Mods None W w := by
  obtain ⟨a, c, rfl, hc1, hc2, hc3⟩ := h.form
  cases a with
  | none =>
    have h0 := hc3 rfl
    obtain rfl : l = [] := List.eq_nil_of_length_eq_zero h0
    have hq := fun w => Lib.run_eql_slice_nil (P := Tryd.prog) w 33 44 none 0 c 0 0 Tryd.underlying33
    clear h hl hc1 hc2 hc3 h0
    simp only [List.length_nil]
    go_enter Tryd.func37, Tryd.ntmps37
    go_wp2_with fail
    go_ret
    exact ⟨_, rfl, OwnS.none_ _ _, Mods.refl _ _⟩
  | some ad =>
    have hq := fun w => Lib.run_eql_slice_nil (P := Tryd.prog) w 33 44 (some ad) l.length c 0 0 Tryd.underlying33
    obtain ⟨i0, hi, hz0, hz1, hz2⟩ := info_parts stp_info
    have HI := Lib.hid (And.intro hi (And.intro hz0 (And.intro hz1 hz2)))
    obtain ⟨W1, hW1⟩ : ∃ W1, W1 = W.alloc (.cells #[] 44) := ⟨_, rfl⟩
    have hm1 : Mods None W W1 := by rw [hW1]; exact (Mods.refl _ _).alloc _
    have HO1 := Lib.hid (show W1.ownsRow W.heap.size 44 10 (.slice (some ⟨W.heap.size, 0, none⟩) 0 0) 0 [] by rw [hW1]; exact own_new W 44 10 (by decide))
    have HS1 := Lib.hid hm1.size
    obtain ⟨cs, HCS, HREL⟩ : ∃ cs : List Value, Hid (cs.length = l.length * 10 ∧ (∀ j u, cs[j]? = some u → W1.cell? (ad.add j) = some u) ∧ ∀ u ∈ cs, u.oneCell' = true) ∧ Hid (RelS W1 (fun k => ¬ k < W.heap.size) cs l) := by
      by_cases h0 : l.length = 0
      · obtain rfl : l = [] := List.eq_nil_of_length_eq_zero h0
        exact ⟨[], Lib.hid ⟨rfl, fun j u hj => by simp at hj, fun u hu => by simp at hu⟩, Lib.hid (fun i x hx => by simp at hx)⟩
      · obtain ⟨g, o, _, rfl, -⟩ : ∃ g o av, ad = ⟨g, o, none⟩ ∧ av = av ∧ True := by
          obtain ⟨a', c', e1, -, -, -, e6⟩ := h
          obtain ⟨rfl, -, -⟩ := Value.slice.inj e1
          obtain ⟨g, o, av, k1, -⟩ := e6 0 l[0] (List.getElem?_eq_getElem (by omega))
          cases k1
          exact ⟨g, o, (0 : Nat), rfl, rfl, trivial⟩
        obtain ⟨cs, e1, e2, e3, e4⟩ := stps_cells h
        exact ⟨cs, Lib.hid ⟨e1, fun j u hj => by rw [add_plain]; exact hm1.cellOf (e2 j u hj) (fun f => f), e4⟩, Lib.hid (e3.mods (hm1.mono fun _ _ f => f.elim) (fun k h1 h2 => (h2 h1).elim))⟩
    have HM1 := Lib.hid hm1
    obtain ⟨ln, hln⟩ : ∃ ln, ln = l.length := ⟨_, rfl⟩
    have HLN := Lib.hid hln
    have HLL := Lib.hid hl
    rw [← hln] at hq HCS
    rw [← hln]
    clear h hc1 hc2 hc3 hi hz0 hz1 hz2 hm1 hln hl
    go_enter Tryd.func37, Tryd.ntmps37
    go_wp2_with (at_builtin; rw [← hW1]; refine wpList_append_own_at _ rfl _ _ 33 rfl W.heap.size 44 i0 _ 10 112 Tryd.underlying33 HI.out.1 HI.out.2.1 HI.out.2.2.1 HI.out.2.2.2 rfl (by decide) (.slice (some ⟨W.heap.size, 0, none⟩) 0 0) 0 [] rfl HO1.out ad ln c cs rfl HCS.out.1 HCS.out.2.1 HCS.out.2.2 (by have := HLL.out; have := HLN.out; unfold maxLen; omega) (by have := HLL.out; have := HLN.out; omega) HS1.out ?_; intro v' w5 hown hgrow hnil hloc; have HOW := Lib.hid hown; have HGR := Lib.hid (And.intro hgrow hloc); clear hown hgrow hnil hloc)
    go_ret
    have hm : Mods None W w5 := HM1.out.trans' (Mods.of_grownBy (S := fun k => k = W.heap.size) HGR.out.1 (fun k hk _ => by simp only [Value.ownBlock, Option.some.injEq] at hk; exact hk.symm)) (fun k hk hl => by omega)
    have ho := HOW.out
    rw [Nat.zero_add, List.nil_append] at ho
    refine ⟨_, rfl, ⟨cs, by rw [← HLN.out]; exact ho, ?_⟩, hm⟩
    exact HREL.out.mods (Mods.of_grownBy HGR.out.1 (fun k hk _ => by simp only [Value.ownBlock, Option.some.injEq] at hk; rw [← hk]; exact Nat.lt_irrefl _)) (fun _ _ f => f.elim)
end Go.Proofs.YtoajcbfejplfbaaDoor.MidP

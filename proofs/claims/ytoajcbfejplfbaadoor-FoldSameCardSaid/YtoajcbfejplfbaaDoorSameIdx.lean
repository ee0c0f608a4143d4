/- Whether steps are few enough to be held. Conditions: they lie. slices.IndexFunc over functions of steps at FoldSame's closure; slices.Equal of places' types. Printed by mksidx.py. Conditions: what they read lies. -/
import Derived.Test.YtoajcbfejplfbaaDoorMidFun
import Derived.Test.YtoajcbfejplfbaaDoorMidRight
import Derived.Test.YtoajcbfejplfbaaDoorMidEq
namespace Go.Proofs.YtoajcbfejplfbaaDoor.MidP
open Go.RowKit Go.Proofs.YtoajcbfejplfbaaDoor.Wo Go.Maps Go.Proofs.YtoajcbfejplfbaaDoor.TreeP
set_option linter.unusedVariables false
set_option linter.unusedSimpArgs false
def smallS (s : Stp) : Bool := decide (s.args.length ≤ 20) && decide (s.op.length ≤ 20)
def smallF (F : Fm) : Bool := decide (F.steps.length ≤ 60) && decide (F.types.length ≤ 40) && F.steps.all smallS
def smallB (L : List Fm) : Bool := decide (L.length ≤ 15) && L.all smallF
theorem small_parts {L : List Fm} (h : smallB L = true) : L.length ≤ 15 ∧ ∀ F ∈ L, F.steps.length ≤ 60 ∧ F.types.length ≤ 40 ∧ ∀ s ∈ F.steps, s.args.length ≤ 20 ∧ s.op.length ≤ 20 := by
  unfold smallB smallF smallS at h
  simp only [Bool.and_eq_true, decide_eq_true_eq, List.all_eq_true] at h
  exact ⟨h.1, fun F hF => ⟨(h.2 F hF).1.1, (h.2 F hF).1.2, fun s hs => (h.2 F hF).2 s hs⟩⟩
theorem all_takeF {α : Type} {p : α → Bool} {l : List α} {i : Nat} {x : α} (h : (l.take i).all p = true) (hx : l[i]? = some x) (hp : p x = true) : (l.take (i + 1)).all p = true := by
  rw [List.take_add_one, hx, List.all_append, h]
  simp [hp]
theorem all_fails {α : Type} {p : α → Bool} {l : List α} {i : Nat} {x : α} (hx : l[i]? = some x) (hp : p x = false) : l.all p = false := by
  rw [List.all_eq_false]
  exact ⟨x, List.mem_of_getElem? hx, by rw [hp]; decide⟩
set_option maxRecDepth 100000 in
set_option maxHeartbeats 4000000 in
theorem small_any (L : List Fm) (lv : Value) (W : World) (hL : FmsAt W None lv L) :
    Calls Tryd.prog 20 #[lv] W fun e w => e = .returned (.bool (smallB L)) ∧ Mods None W w := by
  have HL := Lib.hid (fun (w : World) (hm : Mods None W w) => hL.mods hm (fun _ _ k => k))
  obtain ⟨la, lc, rfl, hlc1, hlc2, -⟩ := hL.form
  obtain ⟨n, hn⟩ : ∃ n, n = L.length := ⟨_, rfl⟩
  obtain ⟨R, hR⟩ : ∃ R, R = smallB L := ⟨_, rfl⟩
  have HR := Lib.hid hR
  have HN := Lib.hid hn
  rw [← hn] at hlc1
  rw [← hn, ← hR]
  clear hn hL hR
  go_enter Tryd.func20, Tryd.ntmps20
  by_cases h15 : n ≤ 15
  rotate_left
  · have hg : (n : Int) > 15 := by omega
    have e : R = false := by
      rw [HR.out]
      unfold smallB
      have : ¬ L.length ≤ 15 := by rw [← HN.out]; exact h15
      simp [this]
    subst e
    clear h15
    go_wp2_with fail
    go_ret
    exact ⟨rfl, by first | exact Mods.refl _ _ | exact (Mods.refl _ _).drew⟩
  · have hg : ¬ (n : Int) > 15 := by omega
    have HF : Hid (∀ (i : Nat) (F : Fm), L[i]? = some F → smallF F = false → R = false) := Lib.hid (fun i F h1 h2 => by
      rw [HR.out]
      unfold smallB
      rw [all_fails h1 h2]
      simp)
    have HT : Hid (L.all smallF = true → R = true) := Lib.hid (fun h => by
      rw [HR.out]
      unfold smallB
      have : L.length ≤ 15 := by rw [← HN.out]; exact h15
      simp [this, h])
    clear HR
    go_wp2_with fail
    go_loopw [3] (fun iv wr => ∃ i : Nat, i ≤ n ∧ iv = .int .i64 (i : Int) ∧ Hid ((L.take i).all smallF = true) ∧ Hid (Mods None W wr)) (fun iv _ => (n - intOf iv).toNat)
    case atStart => exact ⟨0, Nat.zero_le _, rfl, Lib.hid rfl, Lib.hid (by first | exact Mods.refl _ _ | exact (Mods.refl _ _).drew)⟩
    case round =>
      obtain ⟨w0, rfl⟩ : ∃ w0 : World, w0 = wr := ⟨_, rfl⟩
      obtain ⟨i, hi, rfl, HA, HM⟩ := hrel
      by_cases hlt : i < n
      · have hil : i < L.length := by rw [← HN.out]; exact hlt
        obtain ⟨F, hFi⟩ : ∃ F, L[i]? = some F := ⟨_, List.getElem?_eq_getElem hil⟩
        have hFe : L[i] = F := (List.getElem?_eq_some_iff.1 hFi).2
        obtain ⟨gs, os, ta, tc, sa, sc, hoe, y0, y1, y2, y3, hty, hst⟩ := (HL.out w0 HM.out).get hil
        subst hoe
        rw [hFe] at y2 y3 hty hst
        obtain ⟨tn, htn⟩ : ∃ tn, tn = F.types.length := ⟨_, rfl⟩
        obtain ⟨sn, hsn⟩ : ∃ sn, sn = F.steps.length := ⟨_, rfl⟩
        rw [← htn] at y2
        rw [← hsn] at y3
        have hpi : (i : Int) < (n : Int) := by omega
        have HST := Lib.hid (fun (w : World) (hm : Mods None w0 w) => hst.mods hm (fun _ _ k => k))
        have HTY := Lib.hid hty
        have HX := Lib.hid (And.intro hFi (And.intro htn hsn))
        have y2d := y2
        clear hst hty hFi hFe y0 y1 hil htn hsn y2d
        by_cases hs60 : sn ≤ 60
        rotate_left
        · have hp1 : (sn : Int) > 60 := by omega
          have e : R = false := HF.out i F HX.out.1 (by
            unfold smallF
            have : ¬ F.steps.length ≤ 60 := by rw [← HX.out.2.2]; exact hs60
            simp [this])
          subst e
          clear hs60
          go_wp2_with fail
          go_ret
          exact ⟨rfl, by first | exact HM.out | exact HM.out.drew⟩
        · have hp1 : ¬ (sn : Int) > 60 := by omega
          by_cases ht40 : tn ≤ 40
          rotate_left
          · have hp2 : (tn : Int) > 40 := by omega
            have e : R = false := HF.out i F HX.out.1 (by
              unfold smallF
              have : ¬ F.types.length ≤ 40 := by rw [← HX.out.2.1]; exact ht40
              simp [this])
            subst e
            clear ht40 hs60
            go_wp2_with fail
            go_ret
            exact ⟨rfl, by first | exact HM.out | exact HM.out.drew⟩
          · have hp2 : ¬ (tn : Int) > 40 := by omega
            go_wp2_with fail
            go_loopw [4] (fun jv wr => ∃ j : Nat, j ≤ sn ∧ jv = .int .i64 (j : Int) ∧ Hid ((F.steps.take j).all smallS = true) ∧ Hid (Mods None w0 wr)) (fun jv _ => (sn - intOf jv).toNat)
            case atStart => exact ⟨0, Nat.zero_le _, rfl, Lib.hid rfl, Lib.hid (by first | exact Mods.refl _ _ | exact (Mods.refl _ _).drew)⟩
            case round =>
              obtain ⟨w1, rfl⟩ : ∃ w1 : World, w1 = wr := ⟨_, rfl⟩
              obtain ⟨j, hj, rfl, HB, HM1⟩ := hrel
              have y3 := HM1.out.cellOf y3 (fun f => f)
              by_cases hlj : j < sn
              · have hjl : j < F.steps.length := by rw [← HX.out.2.2]; exact hlj
                obtain ⟨x, hxi⟩ : ∃ x, F.steps[j]? = some x := ⟨_, List.getElem?_eq_getElem hjl⟩
                have hxe : F.steps[j] = x := (List.getElem?_eq_some_iff.1 hxi).2
                have hsl := HST.out w1 HM1.out
                obtain ⟨g2, o2, xa, xc, hoe, hcs, -⟩ := hsl.get hjl
                subst hoe
                rw [hxe] at hcs
                obtain ⟨-, -, -, -, -, -, z6, -, -, z9⟩ := hcs
                have hpj : (j : Int) < (sn : Int) := by omega
                obtain ⟨an, han⟩ : ∃ an, an = x.args.length := ⟨_, rfl⟩
                rw [← han] at z9
                have HXX := Lib.hid (And.intro hxi han)
                clear hxi hxe hsl hjl han
                unfold str at z6
                by_cases ha20 : an ≤ 20
                rotate_left
                · have hp3 : (an : Int) > 20 := by omega
                  have e : R = false := HF.out i F HX.out.1 (by
                    unfold smallF
                    rw [all_fails HXX.out.1 (by unfold smallS; have : ¬ x.args.length ≤ 20 := by (rw [← HXX.out.2]; exact ha20)
                                                simp [this])]
                    simp)
                  subst e
                  clear ha20
                  go_wp2_with fail
                  go_ret
                  exact ⟨rfl, by first | exact HM.out.trans HM1.out | exact (HM.out.trans HM1.out).drew⟩
                · have hp3 : ¬ (an : Int) > 20 := by omega
                  by_cases ho20 : x.op.length ≤ 20
                  rotate_left
                  · have hp4 : (x.op.length : Int) > 20 := by omega
                    have e : R = false := HF.out i F HX.out.1 (by
                      unfold smallF
                      rw [all_fails HXX.out.1 (by unfold smallS; simp [ho20])]
                      simp)
                    subst e
                    clear ho20 ha20
                    go_wp2_with fail
                    go_ret
                    exact ⟨rfl, by first | exact HM.out.trans HM1.out | exact (HM.out.trans HM1.out).drew⟩
                  · have hp4 : ¬ (x.op.length : Int) > 20 := by omega
                    have HOK : Hid (smallS x = true) := Lib.hid (by
                      unfold smallS
                      have : x.args.length ≤ 20 := by rw [← HXX.out.2]; exact ha20
                      simp [this, ho20])
                    clear ho20 ha20
                    go_wp2_with fail
                    exact ⟨⟨j + 1, by omega, by go_num, Lib.hid (all_takeF HB.out HXX.out.1 HOK.out), Lib.hid (by first | exact HM1.out | exact HM1.out.drew)⟩, by simp [intOf]; omega⟩
              · obtain rfl : j = sn := by omega
                have hpj : ¬ (j : Int) < (j : Int) := by omega
                have HOK : Hid (smallF F = true) := Lib.hid (by
                  unfold smallF
                  have h1 : F.steps.length ≤ 60 := by rw [← HX.out.2.2]; exact hs60
                  have h2 : F.types.length ≤ 40 := by rw [← HX.out.2.1]; exact ht40
                  have h3 := HB.out
                  rw [HX.out.2.2, List.take_length] at h3
                  simp only [h1, h2, h3, decide_true, Bool.and_self])
                go_wp2_with fail
                exact ⟨⟨i + 1, by omega, by go_num, Lib.hid (all_takeF HA.out HX.out.1 HOK.out), Lib.hid (by first | exact HM.out.trans HM1.out | exact (HM.out.trans HM1.out).drew)⟩, by simp [intOf]; omega⟩
      · obtain rfl : i = n := by omega
        have hpi : ¬ (i : Int) < (i : Int) := by omega
        have e : R = true := HT.out (by
          have h3 := HA.out
          rw [HN.out, List.take_length] at h3
          exact h3)
        subst e
        go_wp2_with fail
        go_ret
        exact ⟨rfl, by first | exact HM.out | exact HM.out.drew⟩
end Go.Proofs.YtoajcbfejplfbaaDoor.MidP
namespace Go.Proofs.YtoajcbfejplfbaaDoor.MidP
open Go.RowKit Go.Proofs.YtoajcbfejplfbaaDoor.Wo Go.Maps Go.Proofs.YtoajcbfejplfbaaDoor.TreeP
set_option linter.unusedVariables false
set_option linter.unusedSimpArgs false
set_option maxRecDepth 100000 in
set_option maxHeartbeats 1000000 in
theorem index_same (L : List Fm) (v : Value) (q : Nat) (p : Fm → Bool) (W : World) (hL : FmsAt W None v L)
    (hK : ∀ (i : Nat) (hi : i < L.length) (w : World) (fv : Value), Mods None W w → FmV w None L[i] fv → Calls Tryd.prog 23 #[fv, .pointer (some ⟨q, 0, none⟩)] w fun e w' => e = .returned (.bool (p L[i])) ∧ Mods None w w') :
    Calls Tryd.prog 22 #[v, .func (.func 23) #[] #[.pointer (some ⟨q, 0, none⟩)]] W fun e w => e = .returned (.int .i64 (optI (L.findIdx? p))) ∧ Mods None W w := by
  obtain ⟨a, c, rfl, hnc, hcm, h0⟩ := hL.form
  have HL := Lib.hid hL
  have HK := Lib.hid hK
  obtain ⟨n, hn⟩ : ∃ n, n = L.length := ⟨_, rfl⟩
  rw [← hn] at hnc h0 ⊢
  have HN := Lib.hid hn
  clear hn hL hK
  go_enter Tryd.func22, Tryd.ntmps22
  go_wp2_with fail
  go_loopw [5, 8] (fun _ iv wr => ∃ i : Nat, i ≤ n ∧ iv = .int .i64 i ∧ Hid ((L.take i).findIdx? p = none) ∧ Hid (Mods None W wr)) (fun _ iv _ => (n - intOf iv).toNat)
  case atStart => exact ⟨0, Nat.zero_le _, rfl, Lib.hid (by simp), Lib.hid (Mods.refl _ _)⟩
  case round =>
    obtain ⟨i, hi, rfl, HI, HM⟩ := hrel
    by_cases hlt : i < n
    · have hil : i < L.length := by have := HN.out; omega
      have HIL := Lib.hid hil
      obtain ⟨g, o, ta, tc, sa, sc, rfl, c0, c1, c2, c3, hT, hS⟩ := (HL.out.mods HM.out (fun _ _ k => k)).get hil
      have hpi : (i : Int) < (n : Int) := by omega
      have HT := Lib.hid (findIdx_take HI.out (List.getElem?_eq_getElem hil))
      have HE := Lib.hid (HK.out i hil wr _ HM.out ⟨ta, tc, sa, sc, rfl, hT, hS⟩)
      clear hT hS
      generalize L[i] = x at *
      clear hil
      obtain ⟨b, hb⟩ : ∃ b, b = p x := ⟨_, rfl⟩
      rw [← hb] at HE HT
      clear hb
      unfold str at *
      go_wp2_with fail
      go_at_call 23
      refine HE.out.mono ?_
      rintro e w1 ⟨rfl, hm1⟩
      have HM1 := Lib.hid (HM.out.trans hm1)
      clear hm1
      cases b
      · have HT2 : Hid ((L.take (i + 1)).findIdx? p = none) := Lib.hid (by rw [HT.out]; rfl)
        go_wp2_with fail
        exact ⟨⟨i + 1, by omega, by go_num, HT2, HM1⟩, by simp [intOf]; omega⟩
      · have HT2 : Hid (L.findIdx? p = some i) := Lib.hid (findIdx_more (i := i + 1) (by rw [HT.out]; rfl))
        go_wp2_with fail
        go_ret
        rw [HT2.out]
        exact ⟨rfl, HM1.out⟩
    · obtain rfl : i = n := by omega
      have HF : Hid (L.findIdx? p = none) := Lib.hid (by
        have := HI.out
        rwa [List.take_of_length_le (by have := HN.out; omega)] at this)
      go_wp2_with fail
      go_ret
      rw [HF.out]
      exact ⟨rfl, HM.out⟩
set_option maxRecDepth 100000 in
theorem eq_same (g : Fm) (nm : List UInt8) (q : Nat) (w : World) (fv : Value) (hq : w.cell? ⟨q, 0, none⟩ = some (str nm)) (hv : FmV w None g fv) :
    Calls Tryd.prog 23 #[fv, .pointer (some ⟨q, 0, none⟩)] w fun e w' => e = .returned (.bool (g.name == nm)) ∧ Mods None w w' := by
  obtain ⟨ta, tc, sa, sc, rfl, -, -⟩ := hv
  have hlt : q < w.heap.size := World.block_lt_of_cell? w _ hq
  have hne : q ≠ w.heap.size := by omega
  unfold str at *
  go_enter Tryd.func23, Tryd.ntmps23
  go_wp2
  go_ret
  exact ⟨by simp, (Mods.refl _ _).alloc _⟩
theorem iequal_len (a1 a2 : Option Addr) (n1 n2 c1 c2 : Nat) (W : World) (h : ¬ n1 = n2) (h1 : n1 ≤ maxLen) (h2 : n2 ≤ maxLen) :
    Calls Tryd.prog 24 #[.slice a1 n1 c1, .slice a2 n2 c2] W fun e W' => e = .returned (.bool false) ∧ ∃ d, W' = W.drewN d := by
  have hb : ((n1 : Int) != n2) = true := by simp; omega
  unfold maxLen at h1 h2
  go_enter Tryd.func24, Tryd.ntmps24
  go_wp2
  go_ret
  exact ⟨rfl, 0, rfl⟩
set_option maxHeartbeats 400000 in
theorem iequal_quiet (v1 v2 : Value) (l1 l2 : List Int) (W : World) (h1 : InAt W None v1 l1) (h2 : InAt W None v2 l2) :
    Calls Tryd.prog 24 #[v1, v2] W fun e W' => e = .returned (.bool (l1 == l2)) ∧ ∃ d, W' = W.drewN d := by
  obtain ⟨a1, n1, c1, rfl, hn1, hnc1, hm1, hc1⟩ := h1
  obtain ⟨a2, n2, c2, rfl, hn2, hnc2, hm2, hc2⟩ := h2
  by_cases hne : n1 = n2
  · subst hne
    have HC1 := Lib.hid hc1
    have HC2 := Lib.hid hc2
    have HN1 := Lib.hid hn1
    have HN2 := Lib.hid hn2
    clear hn1 hn2 hc1 hc2
    have hb : ((n1 : Int) != n1) = false := by simp
    unfold maxLen at hm1 hm2
    go_enter Tryd.func24, Tryd.ntmps24
    go_wp2
    go_loopw [13] (fun v wr => ∃ i : Nat, i ≤ n1 ∧ v = .int .i64 i ∧ Hid (l1.take i = l2.take i) ∧ Hid (∃ d, wr = W.drewN d)) (fun v _ => (n1 - intOf v).toNat)
    case atStart => exact ⟨0, Nat.zero_le _, rfl, Lib.hid rfl, Lib.hid ⟨0, rfl⟩⟩
    case round =>
      obtain ⟨i, hi, rfl, heq, hq⟩ := hrel
      have hm : Hid (Mods None W wr) := Lib.hid (by obtain ⟨d, rfl⟩ := hq.out; exact (Mods.refl _ _).drewN d)
      by_cases hlt : i < n1
      · have hx1 := getD_some (l := l1) (i := i) (by rw [← HN1.out]; exact hlt)
        have hx2 := getD_some (l := l2) (i := i) (by rw [← HN2.out]; exact hlt)
        obtain ⟨x1, e1⟩ : ∃ x1, x1 = l1.getD i 0 := ⟨_, rfl⟩
        obtain ⟨x2, e2⟩ : ∃ x2, x2 = l2.getD i 0 := ⟨_, rfl⟩
        rw [← e1] at hx1
        rw [← e2] at hx2
        obtain ⟨g1, o1, he1, -, hc1⟩ := HC1.out i x1 hx1
        obtain ⟨g2, o2, he2, -, hc2⟩ := HC2.out i x2 hx2
        have hc1' := hm.out.cellOf hc1 (fun f => f)
        have hc2' := hm.out.cellOf hc2 (fun f => f)
        have HX1 := Lib.hid hx1
        have HX2 := Lib.hid hx2
        subst he1 he2
        clear hc1 hc2 hx1 hx2 e1 e2
        by_cases hx : x1 = x2
        · have hxb : (x1 != x2) = false := by simpa using hx
          have hnext : Hid (l1.take (i + 1) = l2.take (i + 1)) := Lib.hid (by
            have f1 := List.take_add_one (l := l1) (i := i)
            have f2 := List.take_add_one (l := l2) (i := i)
            rw [f1, f2, HX1.out, HX2.out, heq.out, hx])
          clear hx
          go_wp2
          go_region
          go_wp2
          go_roundw
          case rel => exact ⟨i + 1, by omega, by go_num, hnext, Lib.hid (quiet_drew hq.out)⟩
          case measure => simp [intOf]; omega
        · have hxb : (x1 != x2) = true := by simpa using hx
          have hfin : Hid ((l1 == l2) = false) := Lib.hid (by
            rw [beq_eq_false_iff_ne]
            intro e
            rw [e, HX2.out] at HX1
            have := HX1.out
            simp only [Option.some.injEq] at this
            exact hx this.symm)
          clear hx
          go_wp2
          go_region
          go_wp2
          go_ret
          rw [hfin.out]
          exact ⟨rfl, quiet_drew hq.out⟩
      · obtain rfl : i = n1 := by omega
        have hfin : Hid ((l1 == l2) = true) := Lib.hid (by
          have h3 := heq.out
          rw [List.take_of_length_le (by rw [← HN1.out]; exact Nat.le_refl _), List.take_of_length_le (by rw [← HN2.out]; exact Nat.le_refl _)] at h3
          rw [h3]; simp)
        go_wp2
        go_ret
        rw [hfin.out]
        exact ⟨rfl, hq.out⟩
  · have hl : (l1 == l2) = false := by
      rw [beq_eq_false_iff_ne]
      intro e
      rw [hn1, hn2, e] at hne
      exact hne rfl
    rw [hl]
    exact iequal_len a1 a2 n1 n2 c1 c2 W hne (by omega) (by omega)
theorem iequal_any (v1 v2 : Value) (l1 l2 : List Int) (W : World) (h1 : InAt W None v1 l1) (h2 : InAt W None v2 l2) :
    Calls Tryd.prog 24 #[v1, v2] W fun e W' => e = .returned (.bool (l1 == l2)) ∧ Mods None W W' :=
  (iequal_quiet v1 v2 l1 l2 W h1 h2).mono fun e W' ⟨he, d, hd⟩ => ⟨he, by rw [hd]; exact (Mods.refl _ _).drewN d⟩
theorem in_of_ints {W : World} {S : Nat → Prop} {v : Value} {l : List Int} (h : IntsAt W S v l) : InAt W S v l := by
  obtain ⟨a, c, rfl, h1, h2, h3, h4⟩ := h
  exact ⟨a, l.length, c, rfl, rfl, h1, h2, h4⟩
end Go.Proofs.YtoajcbfejplfbaaDoor.MidP

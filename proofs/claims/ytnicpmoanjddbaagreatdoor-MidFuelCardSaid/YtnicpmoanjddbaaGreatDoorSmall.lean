/- Whether steps are few. Conditions: the steps lie. -/
import Derived.Test.YtnicpmoanjddbaaGreatDoorMidFun
import Derived.Test.YtnicpmoanjddbaaGreatDoorMidRight
import Derived.Test.YtnicpmoanjddbaaGreatDoorMidEq
namespace Go.Proofs.YtnicpmoanjddbaaGreatDoor.MidP
open Go.RowKit Go.Proofs.YtnicpmoanjddbaaGreatDoor.Wo Go.Maps Go.Proofs.YtnicpmoanjddbaaGreatDoor.TreeP
set_option linter.unusedVariables false
set_option linter.unusedSimpArgs false
def smallS (s : Stp) : Bool := decide (s.args.length ≤ 20) && decide (s.op.length ≤ 20)
def smallF (F : Fm) : Bool := decide (F.steps.length ≤ 60) && decide (F.types.length ≤ 40) && F.steps.all smallS
def smallB (L : List Fm) : Bool := decide (L.length ≤ 15) && L.all smallF
theorem small_parts {L : List Fm} (h : smallB L = true) : L.length ≤ 15 ∧ ∀ F ∈ L, F.steps.length ≤ 60 ∧ F.types.length ≤ 40 ∧ ∀ s ∈ F.steps, s.args.length ≤ 20 ∧ s.op.length ≤ 20 := by
  unfold smallB smallF smallS at h
  simp only [Bool.and_eq_true, decide_eq_true_eq, List.all_eq_true] at h
  exact ⟨h.1, fun F hF => ⟨(h.2 F hF).1.1, (h.2 F hF).1.2, fun s hs => (h.2 F hF).2 s hs⟩⟩
theorem all_takeF {α : Type} {p : α → Bool} {l : List α} {i : Nat} {x : α} (h : (l.take i).all p = true) (hx : l[i]? = some x) (hp : p x = true) : (l.take (i + 1)).all p = true := by
  rw [List.take_add_one, hx, List.all_append, h]
  simp [hp]
theorem all_fails {α : Type} {p : α → Bool} {l : List α} {i : Nat} {x : α} (hx : l[i]? = some x) (hp : p x = false) : l.all p = false := by
  rw [List.all_eq_false]
  exact ⟨x, List.mem_of_getElem? hx, by rw [hp]; decide⟩
set_option maxRecDepth 100000 in
set_option maxHeartbeats 4000000 in
theorem small_any (L : List Fm) (lv : Value) (W : World) (hL : FmsAt W None lv L) :
    Calls Tryz.prog 6 #[lv] W fun e w => e = .returned (.bool (smallB L)) ∧ Mods None W w := by
  have HL := Lib.hid (fun (w : World) (hm : Mods None W w) => hL.mods hm (fun _ _ k => k))
  obtain ⟨la, lc, rfl, hlc1, hlc2, -⟩ := hL.form
  obtain ⟨n, hn⟩ : ∃ n, n = L.length := ⟨_, rfl⟩
  obtain ⟨R, hR⟩ : ∃ R, R = smallB L := ⟨_, rfl⟩
  have HR := Lib.hid hR
  have HN := Lib.hid hn
  rw [← hn] at hlc1
  rw [← hn, ← hR]
  clear hn hL hR
  go_enter Tryz.func6, Tryz.ntmps6
  by_cases h15 : n ≤ 15
  rotate_left
  · have hg : (n : Int) > 15 := by omega
    have e : R = false := by
      rw [HR.out]
      unfold smallB
      have : ¬ L.length ≤ 15 := by rw [← HN.out]; exact h15
      simp [this]
    subst e
    clear h15
    go_wp2_with fail
    go_ret
    exact ⟨rfl, by first | exact Mods.refl _ _ | exact (Mods.refl _ _).drew⟩
  · have hg : ¬ (n : Int) > 15 := by omega
    have HF : Hid (∀ (i : Nat) (F : Fm), L[i]? = some F → smallF F = false → R = false) := Lib.hid (fun i F h1 h2 => by
      rw [HR.out]
      unfold smallB
      rw [all_fails h1 h2]
      simp)
    have HT : Hid (L.all smallF = true → R = true) := Lib.hid (fun h => by
      rw [HR.out]
      unfold smallB
      have : L.length ≤ 15 := by rw [← HN.out]; exact h15
      simp [this, h])
    clear HR
    go_wp2_with fail
    go_loopw [3] (fun iv wr => ∃ i : Nat, i ≤ n ∧ iv = .int .i64 (i : Int) ∧ Hid ((L.take i).all smallF = true) ∧ Hid (Mods None W wr)) (fun iv _ => (n - intOf iv).toNat)
    case atStart => exact ⟨0, Nat.zero_le _, rfl, Lib.hid rfl, Lib.hid (by first | exact Mods.refl _ _ | exact (Mods.refl _ _).drew)⟩
    case round =>
      obtain ⟨w0, rfl⟩ : ∃ w0 : World, w0 = wr := ⟨_, rfl⟩
      obtain ⟨i, hi, rfl, HA, HM⟩ := hrel
      by_cases hlt : i < n
      · have hil : i < L.length := by rw [← HN.out]; exact hlt
        obtain ⟨F, hFi⟩ : ∃ F, L[i]? = some F := ⟨_, List.getElem?_eq_getElem hil⟩
        have hFe : L[i] = F := (List.getElem?_eq_some_iff.1 hFi).2
        obtain ⟨gs, os, ta, tc, sa, sc, hoe, y0, y1, y2, y3, hty, hst⟩ := (HL.out w0 HM.out).get hil
        subst hoe
        rw [hFe] at y2 y3 hty hst
        obtain ⟨tn, htn⟩ : ∃ tn, tn = F.types.length := ⟨_, rfl⟩
        obtain ⟨sn, hsn⟩ : ∃ sn, sn = F.steps.length := ⟨_, rfl⟩
        rw [← htn] at y2
        rw [← hsn] at y3
        have hpi : (i : Int) < (n : Int) := by omega
        have HST := Lib.hid (fun (w : World) (hm : Mods None w0 w) => hst.mods hm (fun _ _ k => k))
        have HTY := Lib.hid hty
        have HX := Lib.hid (And.intro hFi (And.intro htn hsn))
        have y2d := y2
        clear hst hty hFi hFe y0 y1 hil htn hsn y2d
        by_cases hs60 : sn ≤ 60
        rotate_left
        · have hp1 : (sn : Int) > 60 := by omega
          have e : R = false := HF.out i F HX.out.1 (by
            unfold smallF
            have : ¬ F.steps.length ≤ 60 := by rw [← HX.out.2.2]; exact hs60
            simp [this])
          subst e
          clear hs60
          go_wp2_with fail
          go_ret
          exact ⟨rfl, by first | exact HM.out | exact HM.out.drew⟩
        · have hp1 : ¬ (sn : Int) > 60 := by omega
          by_cases ht40 : tn ≤ 40
          rotate_left
          · have hp2 : (tn : Int) > 40 := by omega
            have e : R = false := HF.out i F HX.out.1 (by
              unfold smallF
              have : ¬ F.types.length ≤ 40 := by rw [← HX.out.2.1]; exact ht40
              simp [this])
            subst e
            clear ht40 hs60
            go_wp2_with fail
            go_ret
            exact ⟨rfl, by first | exact HM.out | exact HM.out.drew⟩
          · have hp2 : ¬ (tn : Int) > 40 := by omega
            go_wp2_with fail
            go_loopw [4] (fun jv wr => ∃ j : Nat, j ≤ sn ∧ jv = .int .i64 (j : Int) ∧ Hid ((F.steps.take j).all smallS = true) ∧ Hid (Mods None w0 wr)) (fun jv _ => (sn - intOf jv).toNat)
            case atStart => exact ⟨0, Nat.zero_le _, rfl, Lib.hid rfl, Lib.hid (by first | exact Mods.refl _ _ | exact (Mods.refl _ _).drew)⟩
            case round =>
              obtain ⟨w1, rfl⟩ : ∃ w1 : World, w1 = wr := ⟨_, rfl⟩
              obtain ⟨j, hj, rfl, HB, HM1⟩ := hrel
              have y3 := HM1.out.cellOf y3 (fun f => f)
              by_cases hlj : j < sn
              · have hjl : j < F.steps.length := by rw [← HX.out.2.2]; exact hlj
                obtain ⟨x, hxi⟩ : ∃ x, F.steps[j]? = some x := ⟨_, List.getElem?_eq_getElem hjl⟩
                have hxe : F.steps[j] = x := (List.getElem?_eq_some_iff.1 hxi).2
                have hsl := HST.out w1 HM1.out
                obtain ⟨g2, o2, xa, xc, hoe, hcs, -⟩ := hsl.get hjl
                subst hoe
                rw [hxe] at hcs
                obtain ⟨-, -, -, -, -, -, z6, -, -, z9⟩ := hcs
                have hpj : (j : Int) < (sn : Int) := by omega
                obtain ⟨an, han⟩ : ∃ an, an = x.args.length := ⟨_, rfl⟩
                rw [← han] at z9
                have HXX := Lib.hid (And.intro hxi han)
                clear hxi hxe hsl hjl han
                unfold str at z6
                by_cases ha20 : an ≤ 20
                rotate_left
                · have hp3 : (an : Int) > 20 := by omega
                  have e : R = false := HF.out i F HX.out.1 (by
                    unfold smallF
                    rw [all_fails HXX.out.1 (by unfold smallS; have : ¬ x.args.length ≤ 20 := by (rw [← HXX.out.2]; exact ha20)
                                                simp [this])]
                    simp)
                  subst e
                  clear ha20
                  go_wp2_with fail
                  go_ret
                  exact ⟨rfl, by first | exact HM.out.trans HM1.out | exact (HM.out.trans HM1.out).drew⟩
                · have hp3 : ¬ (an : Int) > 20 := by omega
                  by_cases ho20 : x.op.length ≤ 20
                  rotate_left
                  · have hp4 : (x.op.length : Int) > 20 := by omega
                    have e : R = false := HF.out i F HX.out.1 (by
                      unfold smallF
                      rw [all_fails HXX.out.1 (by unfold smallS; simp [ho20])]
                      simp)
                    subst e
                    clear ho20 ha20
                    go_wp2_with fail
                    go_ret
                    exact ⟨rfl, by first | exact HM.out.trans HM1.out | exact (HM.out.trans HM1.out).drew⟩
                  · have hp4 : ¬ (x.op.length : Int) > 20 := by omega
                    have HOK : Hid (smallS x = true) := Lib.hid (by
                      unfold smallS
                      have : x.args.length ≤ 20 := by rw [← HXX.out.2]; exact ha20
                      simp [this, ho20])
                    clear ho20 ha20
                    go_wp2_with fail
                    exact ⟨⟨j + 1, by omega, by go_num, Lib.hid (all_takeF HB.out HXX.out.1 HOK.out), Lib.hid (by first | exact HM1.out | exact HM1.out.drew)⟩, by simp [intOf]; omega⟩
              · obtain rfl : j = sn := by omega
                have hpj : ¬ (j : Int) < (j : Int) := by omega
                have HOK : Hid (smallF F = true) := Lib.hid (by
                  unfold smallF
                  have h1 : F.steps.length ≤ 60 := by rw [← HX.out.2.2]; exact hs60
                  have h2 : F.types.length ≤ 40 := by rw [← HX.out.2.1]; exact ht40
                  have h3 := HB.out
                  rw [HX.out.2.2, List.take_length] at h3
                  simp only [h1, h2, h3, decide_true, Bool.and_self])
                go_wp2_with fail
                exact ⟨⟨i + 1, by omega, by go_num, Lib.hid (all_takeF HA.out HX.out.1 HOK.out), Lib.hid (by first | exact HM.out.trans HM1.out | exact (HM.out.trans HM1.out).drew)⟩, by simp [intOf]; omega⟩
      · obtain rfl : i = n := by omega
        have hpi : ¬ (i : Int) < (i : Int) := by omega
        have e : R = true := HT.out (by
          have h3 := HA.out
          rw [HN.out, List.take_length] at h3
          exact h3)
        subst e
        go_wp2_with fail
        go_ret
        exact ⟨rfl, by first | exact HM.out | exact HM.out.drew⟩
end Go.Proofs.YtnicpmoanjddbaaGreatDoor.MidP
namespace Go.Proofs.YtnicpmoanjddbaaGreatDoor.MidP
open Go.RowKit Go.Proofs.YtnicpmoanjddbaaGreatDoor.Wo Go.Maps Go.Proofs.YtnicpmoanjddbaaGreatDoor.TreeP
end Go.Proofs.YtnicpmoanjddbaaGreatDoor.MidP

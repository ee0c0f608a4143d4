/- slices' functions over functions of steps, over steps, over numbers, at each closure. Printed by mkidx.py. Conditions: what they read lies. -/
import Derived.Test.YtnicpmoanjddbaaGreatDoorMidMem
namespace Go.Proofs.YtnicpmoanjddbaaGreatDoor.MidP
open Go.RowKit Go.Proofs.YtnicpmoanjddbaaGreatDoor.Wo Go.Maps Go.Proofs.YtnicpmoanjddbaaGreatDoor.TreeP
set_option linter.unusedVariables false
set_option linter.unusedSimpArgs false
def optI : Option Nat → Int
  | some i => i
  | none => -1
theorem findIdx_take {α : Type} {p : α → Bool} {l : List α} {i : Nat} (h : (l.take i).findIdx? p = none) {x : α} (hx : l[i]? = some x) : (l.take (i + 1)).findIdx? p = if p x then some i else none := by
  induction l generalizing i with
  | nil => simp at hx
  | cons a r ih =>
    cases i with
    | zero =>
      simp only [List.getElem?_cons_zero, Option.some.injEq] at hx
      subst hx
      simp [List.findIdx?_cons]
    | succ i =>
      simp only [List.take_succ_cons, List.findIdx?_cons] at h ⊢
      split at h
      · cases h
      · rename_i hn
        simp only [Option.map_eq_none_iff] at h
        rw [if_neg hn, ih h (by simpa using hx)]
        split <;> rfl
theorem findIdx_more {α : Type} {p : α → Bool} {l : List α} {i j : Nat} (h : (l.take i).findIdx? p = some j) : l.findIdx? p = some j := by
  induction l generalizing i j with
  | nil => simp at h
  | cons a r ih =>
    cases i with
    | zero => simp at h
    | succ i =>
      simp only [List.take_succ_cons, List.findIdx?_cons] at h ⊢
      split at h
      · rename_i hy
        rw [if_pos hy]
        exact h
      · rename_i hn
        rw [if_neg hn]
        obtain ⟨k, hk, rfl⟩ := Option.map_eq_some_iff.1 h
        rw [ih hk]
        rfl
theorem optI_some {α : Type} (l : List α) (p : α → Bool) : decide (optI (l.findIdx? p) ≥ 0) = l.any p := by
  rw [← List.findIdx?_isSome]
  cases l.findIdx? p with
  | none => rfl
  | some i => simp [optI]
set_option maxRecDepth 100000 in
set_option maxHeartbeats 1000000 in
theorem index_call (L : List Fm) (v : Value) (q : Nat) (p : Fm → Bool) (W : World) (hL : FmsAt W None v L)
    (hK : ∀ (i : Nat) (hi : i < L.length) (w : World) (fv : Value), Mods None W w → FmV w None L[i] fv → Calls Tryz.prog 87 #[fv, .pointer (some ⟨q, 0, none⟩)] w fun e w' => e = .returned (.bool (p L[i])) ∧ Mods None w w') :
    Calls Tryz.prog 53 #[v, .func (.func 87) #[] #[.pointer (some ⟨q, 0, none⟩)]] W fun e w => e = .returned (.int .i64 (optI (L.findIdx? p))) ∧ Mods None W w := by
  obtain ⟨a, c, rfl, hnc, hcm, h0⟩ := hL.form
  have HL := Lib.hid hL
  have HK := Lib.hid hK
  obtain ⟨n, hn⟩ : ∃ n, n = L.length := ⟨_, rfl⟩
  rw [← hn] at hnc h0 ⊢
  have HN := Lib.hid hn
  clear hn hL hK
  go_enter Tryz.func53, Tryz.ntmps53
  go_wp2_with fail
  go_loopw [5, 8] (fun _ iv wr => ∃ i : Nat, i ≤ n ∧ iv = .int .i64 i ∧ Hid ((L.take i).findIdx? p = none) ∧ Hid (Mods None W wr)) (fun _ iv _ => (n - intOf iv).toNat)
  case atStart => exact ⟨0, Nat.zero_le _, rfl, Lib.hid (by simp), Lib.hid (Mods.refl _ _)⟩
  case round =>
    obtain ⟨i, hi, rfl, HI, HM⟩ := hrel
    by_cases hlt : i < n
    · have hil : i < L.length := by have := HN.out; omega
      have HIL := Lib.hid hil
      obtain ⟨g, o, ta, tc, sa, sc, rfl, c0, c1, c2, c3, hT, hS⟩ := (HL.out.mods HM.out (fun _ _ k => k)).get hil
      have hpi : (i : Int) < (n : Int) := by omega
      have HT := Lib.hid (findIdx_take HI.out (List.getElem?_eq_getElem hil))
      have HE := Lib.hid (HK.out i hil wr _ HM.out ⟨ta, tc, sa, sc, rfl, hT, hS⟩)
      clear hT hS
      generalize L[i] = x at *
      clear hil
      obtain ⟨b, hb⟩ : ∃ b, b = p x := ⟨_, rfl⟩
      rw [← hb] at HE HT
      clear hb
      unfold str at *
      go_wp2_with fail
      go_at_call 87
      refine HE.out.mono ?_
      rintro e w1 ⟨rfl, hm1⟩
      have HM1 := Lib.hid (HM.out.trans hm1)
      clear hm1
      cases b
      · have HT2 : Hid ((L.take (i + 1)).findIdx? p = none) := Lib.hid (by rw [HT.out]; rfl)
        go_wp2_with fail
        exact ⟨⟨i + 1, by omega, by go_num, HT2, HM1⟩, by simp [intOf]; omega⟩
      · have HT2 : Hid (L.findIdx? p = some i) := Lib.hid (findIdx_more (i := i + 1) (by rw [HT.out]; rfl))
        go_wp2_with fail
        go_ret
        rw [HT2.out]
        exact ⟨rfl, HM1.out⟩
    · obtain rfl : i = n := by omega
      have HF : Hid (L.findIdx? p = none) := Lib.hid (by
        have := HI.out
        rwa [List.take_of_length_le (by have := HN.out; omega)] at this)
      go_wp2_with fail
      go_ret
      rw [HF.out]
      exact ⟨rfl, HM.out⟩
set_option maxRecDepth 100000 in
set_option maxHeartbeats 1000000 in
theorem index_twin (L : List Fm) (v : Value) (q : Nat) (p : Fm → Bool) (W : World) (hL : FmsAt W None v L)
    (hK : ∀ (i : Nat) (hi : i < L.length) (w : World) (fv : Value), Mods None W w → FmV w None L[i] fv → Calls Tryz.prog 25 #[fv, .pointer (some ⟨q, 0, none⟩)] w fun e w' => e = .returned (.bool (p L[i])) ∧ Mods None w w') :
    Calls Tryz.prog 53 #[v, .func (.func 25) #[] #[.pointer (some ⟨q, 0, none⟩)]] W fun e w => e = .returned (.int .i64 (optI (L.findIdx? p))) ∧ Mods None W w := by
  obtain ⟨a, c, rfl, hnc, hcm, h0⟩ := hL.form
  have HL := Lib.hid hL
  have HK := Lib.hid hK
  obtain ⟨n, hn⟩ : ∃ n, n = L.length := ⟨_, rfl⟩
  rw [← hn] at hnc h0 ⊢
  have HN := Lib.hid hn
  clear hn hL hK
  go_enter Tryz.func53, Tryz.ntmps53
  go_wp2_with fail
  go_loopw [5, 8] (fun _ iv wr => ∃ i : Nat, i ≤ n ∧ iv = .int .i64 i ∧ Hid ((L.take i).findIdx? p = none) ∧ Hid (Mods None W wr)) (fun _ iv _ => (n - intOf iv).toNat)
  case atStart => exact ⟨0, Nat.zero_le _, rfl, Lib.hid (by simp), Lib.hid (Mods.refl _ _)⟩
  case round =>
    obtain ⟨i, hi, rfl, HI, HM⟩ := hrel
    by_cases hlt : i < n
    · have hil : i < L.length := by have := HN.out; omega
      have HIL := Lib.hid hil
      obtain ⟨g, o, ta, tc, sa, sc, rfl, c0, c1, c2, c3, hT, hS⟩ := (HL.out.mods HM.out (fun _ _ k => k)).get hil
      have hpi : (i : Int) < (n : Int) := by omega
      have HT := Lib.hid (findIdx_take HI.out (List.getElem?_eq_getElem hil))
      have HE := Lib.hid (HK.out i hil wr _ HM.out ⟨ta, tc, sa, sc, rfl, hT, hS⟩)
      clear hT hS
      generalize L[i] = x at *
      clear hil
      obtain ⟨b, hb⟩ : ∃ b, b = p x := ⟨_, rfl⟩
      rw [← hb] at HE HT
      clear hb
      unfold str at *
      go_wp2_with fail
      go_at_call 25
      refine HE.out.mono ?_
      rintro e w1 ⟨rfl, hm1⟩
      have HM1 := Lib.hid (HM.out.trans hm1)
      clear hm1
      cases b
      · have HT2 : Hid ((L.take (i + 1)).findIdx? p = none) := Lib.hid (by rw [HT.out]; rfl)
        go_wp2_with fail
        exact ⟨⟨i + 1, by omega, by go_num, HT2, HM1⟩, by simp [intOf]; omega⟩
      · have HT2 : Hid (L.findIdx? p = some i) := Lib.hid (findIdx_more (i := i + 1) (by rw [HT.out]; rfl))
        go_wp2_with fail
        go_ret
        rw [HT2.out]
        exact ⟨rfl, HM1.out⟩
    · obtain rfl : i = n := by omega
      have HF : Hid (L.findIdx? p = none) := Lib.hid (by
        have := HI.out
        rwa [List.take_of_length_le (by have := HN.out; omega)] at this)
      go_wp2_with fail
      go_ret
      rw [HF.out]
      exact ⟨rfl, HM.out⟩
theorem has_twin (L : List Fm) (v : Value) (q : Nat) (p : Fm → Bool) (W : World) (hL : FmsAt W None v L)
    (hK : ∀ (i : Nat) (hi : i < L.length) (w : World) (fv : Value), Mods None W w → FmV w None L[i] fv → Calls Tryz.prog 25 #[fv, .pointer (some ⟨q, 0, none⟩)] w fun e w' => e = .returned (.bool (p L[i])) ∧ Mods None w w') :
    Calls Tryz.prog 24 #[v, .func (.func 25) #[] #[.pointer (some ⟨q, 0, none⟩)]] W fun e w => e = .returned (.bool (L.any p)) ∧ Mods None W w := by
  have H := Lib.hid (index_twin L v q p W hL hK)
  obtain ⟨a, c, rfl, hnc, hcm, h0⟩ := hL.form
  rw [← optI_some]
  clear hL hK h0 hnc hcm
  generalize optI (L.findIdx? p) = k at *
  go_enter Tryz.func24, Tryz.ntmps24
  go_wp2_with fail
  go_at_call 53
  refine H.out.mono ?_
  rintro e w1 ⟨rfl, hm1⟩
  go_wp2_with fail
  go_ret
  exact ⟨rfl, hm1⟩
set_option maxRecDepth 100000 in
set_option maxHeartbeats 1000000 in
theorem index_main (L : List Fm) (v : Value) (p : Fm → Bool) (W : World) (hL : FmsAt W None v L)
    (hK : ∀ (i : Nat) (hi : i < L.length) (w : World) (fv : Value), Mods None W w → FmV w None L[i] fv → Calls Tryz.prog 27 #[fv] w fun e w' => e = .returned (.bool (p L[i])) ∧ Mods None w w') :
    Calls Tryz.prog 53 #[v, .func (.func 27) #[] #[]] W fun e w => e = .returned (.int .i64 (optI (L.findIdx? p))) ∧ Mods None W w := by
  obtain ⟨a, c, rfl, hnc, hcm, h0⟩ := hL.form
  have HL := Lib.hid hL
  have HK := Lib.hid hK
  obtain ⟨n, hn⟩ : ∃ n, n = L.length := ⟨_, rfl⟩
  rw [← hn] at hnc h0 ⊢
  have HN := Lib.hid hn
  clear hn hL hK
  go_enter Tryz.func53, Tryz.ntmps53
  go_wp2_with fail
  go_loopw [5, 8] (fun _ iv wr => ∃ i : Nat, i ≤ n ∧ iv = .int .i64 i ∧ Hid ((L.take i).findIdx? p = none) ∧ Hid (Mods None W wr)) (fun _ iv _ => (n - intOf iv).toNat)
  case atStart => exact ⟨0, Nat.zero_le _, rfl, Lib.hid (by simp), Lib.hid (Mods.refl _ _)⟩
  case round =>
    obtain ⟨i, hi, rfl, HI, HM⟩ := hrel
    by_cases hlt : i < n
    · have hil : i < L.length := by have := HN.out; omega
      have HIL := Lib.hid hil
      obtain ⟨g, o, ta, tc, sa, sc, rfl, c0, c1, c2, c3, hT, hS⟩ := (HL.out.mods HM.out (fun _ _ k => k)).get hil
      have hpi : (i : Int) < (n : Int) := by omega
      have HT := Lib.hid (findIdx_take HI.out (List.getElem?_eq_getElem hil))
      have HE := Lib.hid (HK.out i hil wr _ HM.out ⟨ta, tc, sa, sc, rfl, hT, hS⟩)
      clear hT hS
      generalize L[i] = x at *
      clear hil
      obtain ⟨b, hb⟩ : ∃ b, b = p x := ⟨_, rfl⟩
      rw [← hb] at HE HT
      clear hb
      unfold str at *
      go_wp2_with fail
      go_at_call 27
      refine HE.out.mono ?_
      rintro e w1 ⟨rfl, hm1⟩
      have HM1 := Lib.hid (HM.out.trans hm1)
      clear hm1
      cases b
      · have HT2 : Hid ((L.take (i + 1)).findIdx? p = none) := Lib.hid (by rw [HT.out]; rfl)
        go_wp2_with fail
        exact ⟨⟨i + 1, by omega, by go_num, HT2, HM1⟩, by simp [intOf]; omega⟩
      · have HT2 : Hid (L.findIdx? p = some i) := Lib.hid (findIdx_more (i := i + 1) (by rw [HT.out]; rfl))
        go_wp2_with fail
        go_ret
        rw [HT2.out]
        exact ⟨rfl, HM1.out⟩
    · obtain rfl : i = n := by omega
      have HF : Hid (L.findIdx? p = none) := Lib.hid (by
        have := HI.out
        rwa [List.take_of_length_le (by have := HN.out; omega)] at this)
      go_wp2_with fail
      go_ret
      rw [HF.out]
      exact ⟨rfl, HM.out⟩
theorem has_main (L : List Fm) (v : Value) (p : Fm → Bool) (W : World) (hL : FmsAt W None v L)
    (hK : ∀ (i : Nat) (hi : i < L.length) (w : World) (fv : Value), Mods None W w → FmV w None L[i] fv → Calls Tryz.prog 27 #[fv] w fun e w' => e = .returned (.bool (p L[i])) ∧ Mods None w w') :
    Calls Tryz.prog 24 #[v, .func (.func 27) #[] #[]] W fun e w => e = .returned (.bool (L.any p)) ∧ Mods None W w := by
  have H := Lib.hid (index_main L v p W hL hK)
  obtain ⟨a, c, rfl, hnc, hcm, h0⟩ := hL.form
  rw [← optI_some]
  clear hL hK h0 hnc hcm
  generalize optI (L.findIdx? p) = k at *
  go_enter Tryz.func24, Tryz.ntmps24
  go_wp2_with fail
  go_at_call 53
  refine H.out.mono ?_
  rintro e w1 ⟨rfl, hm1⟩
  go_wp2_with fail
  go_ret
  exact ⟨rfl, hm1⟩
set_option maxRecDepth 100000 in
set_option maxHeartbeats 1000000 in
theorem index_types (L : List Int) (v : Value) (p : Int → Bool) (W : World) (hL : IntsAt W None v L)
    (hK : ∀ (i : Nat) (hi : i < L.length) (w : World) (fv : Value), Mods None W w → fv = .int .i64 L[i] → Calls Tryz.prog 55 #[fv] w fun e w' => e = .returned (.bool (p L[i])) ∧ Mods None w w') :
    Calls Tryz.prog 84 #[v, .func (.func 55) #[] #[]] W fun e w => e = .returned (.int .i64 (optI (L.findIdx? p))) ∧ Mods None W w := by
  obtain ⟨a, c, rfl, hnc, hcm, h0⟩ := hL.form
  have HL := Lib.hid hL
  have HK := Lib.hid hK
  obtain ⟨n, hn⟩ : ∃ n, n = L.length := ⟨_, rfl⟩
  rw [← hn] at hnc h0 ⊢
  have HN := Lib.hid hn
  clear hn hL hK
  go_enter Tryz.func84, Tryz.ntmps84
  go_wp2_with fail
  go_loopw [5, 8] (fun _ iv wr => ∃ i : Nat, i ≤ n ∧ iv = .int .i64 i ∧ Hid ((L.take i).findIdx? p = none) ∧ Hid (Mods None W wr)) (fun _ iv _ => (n - intOf iv).toNat)
  case atStart => exact ⟨0, Nat.zero_le _, rfl, Lib.hid (by simp), Lib.hid (Mods.refl _ _)⟩
  case round =>
    obtain ⟨i, hi, rfl, HI, HM⟩ := hrel
    by_cases hlt : i < n
    · have hil : i < L.length := by have := HN.out; omega
      have HIL := Lib.hid hil
      obtain ⟨g, o, rfl, c0⟩ := (HL.out.mods HM.out (fun _ _ k => k)).get hil
      have hpi : (i : Int) < (n : Int) := by omega
      have HT := Lib.hid (findIdx_take HI.out (List.getElem?_eq_getElem hil))
      have HE := Lib.hid (HK.out i hil wr _ HM.out rfl)

      generalize L[i] = x at *
      clear hil
      obtain ⟨b, hb⟩ : ∃ b, b = p x := ⟨_, rfl⟩
      rw [← hb] at HE HT
      clear hb

      go_wp2_with fail
      go_at_call 55
      refine HE.out.mono ?_
      rintro e w1 ⟨rfl, hm1⟩
      have HM1 := Lib.hid (HM.out.trans hm1)
      clear hm1
      cases b
      · have HT2 : Hid ((L.take (i + 1)).findIdx? p = none) := Lib.hid (by rw [HT.out]; rfl)
        go_wp2_with fail
        exact ⟨⟨i + 1, by omega, by go_num, HT2, HM1⟩, by simp [intOf]; omega⟩
      · have HT2 : Hid (L.findIdx? p = some i) := Lib.hid (findIdx_more (i := i + 1) (by rw [HT.out]; rfl))
        go_wp2_with fail
        go_ret
        rw [HT2.out]
        exact ⟨rfl, HM1.out⟩
    · obtain rfl : i = n := by omega
      have HF : Hid (L.findIdx? p = none) := Lib.hid (by
        have := HI.out
        rwa [List.take_of_length_le (by have := HN.out; omega)] at this)
      go_wp2_with fail
      go_ret
      rw [HF.out]
      exact ⟨rfl, HM.out⟩
theorem has_types (L : List Int) (v : Value) (p : Int → Bool) (W : World) (hL : IntsAt W None v L)
    (hK : ∀ (i : Nat) (hi : i < L.length) (w : World) (fv : Value), Mods None W w → fv = .int .i64 L[i] → Calls Tryz.prog 55 #[fv] w fun e w' => e = .returned (.bool (p L[i])) ∧ Mods None w w') :
    Calls Tryz.prog 54 #[v, .func (.func 55) #[] #[]] W fun e w => e = .returned (.bool (L.any p)) ∧ Mods None W w := by
  have H := Lib.hid (index_types L v p W hL hK)
  obtain ⟨a, c, rfl, hnc, hcm, h0⟩ := hL.form
  rw [← optI_some]
  clear hL hK h0 hnc hcm
  generalize optI (L.findIdx? p) = k at *
  go_enter Tryz.func54, Tryz.ntmps54
  go_wp2_with fail
  go_at_call 84
  refine H.out.mono ?_
  rintro e w1 ⟨rfl, hm1⟩
  go_wp2_with fail
  go_ret
  exact ⟨rfl, hm1⟩
end Go.Proofs.YtnicpmoanjddbaaGreatDoor.MidP

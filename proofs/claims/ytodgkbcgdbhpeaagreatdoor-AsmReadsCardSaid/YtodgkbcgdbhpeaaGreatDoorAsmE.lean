/- Two rows of instructions compared: slices.Equal. Conditions: the instructions lie. -/
import Derived.Test.YtodgkbcgdbhpeaaGreatDoorAsmB
namespace Go.Proofs.YtodgkbcgdbhpeaaGreatDoor.AsmP
open Go.RowKit Go.Proofs.YtodgkbcgdbhpeaaGreatDoor.WordP Go.Proofs.YtodgkbcgdbhpeaaGreatDoor.Wo
set_option linter.unusedVariables false
set_option linter.unusedSimpArgs false
theorem take_eq_next {α : Type} [DecidableEq α] {l m : List α} {i : Nat} {x y : α} (h : l.take i = m.take i) (hx : l[i]? = some x) (hy : m[i]? = some y) : (x = y → l.take (i + 1) = m.take (i + 1)) ∧ (x ≠ y → l ≠ m) := by
  constructor
  · rintro rfl
    rw [List.take_add_one, List.take_add_one, h, hx, hy]
  · rintro hne rfl
    rw [hx] at hy
    exact hne (Option.some.inj hy)
set_option maxRecDepth 100000 in
set_option maxHeartbeats 2000000 in
theorem equal_any (l m : List Ins) (hl : l.length ≤ 100000) (hm : m.length ≤ 100000) (v u : Value) (W : World) (hI : InsIn W None v l) (hJ : InsIn W None u m) : Calls Tryz.prog 10 #[v, u] W fun e w => e = .returned (.bool (decide (l = m))) ∧ Mods None W w := by
  have HI := Lib.hid hI
  have HJ := Lib.hid hJ
  obtain ⟨oa, oc, rfl, -, -⟩ := hI
  obtain ⟨ob, od, rfl, -, -⟩ := hJ
  obtain ⟨n, hn⟩ : ∃ n, n = l.length := ⟨_, rfl⟩
  obtain ⟨k, hk⟩ : ∃ k, k = m.length := ⟨_, rfl⟩
  have HN := Lib.hid (And.intro hn hk)
  rw [← hn] at hl ⊢
  rw [← hk] at hm ⊢
  clear hn hk
  by_cases hnk : n = k
  · subst hnk
    go_enter Tryz.func10, Tryz.ntmps10
    go_wp2_with fail
    go_loopw [13] (fun iv wr => ∃ i : Nat, i ≤ n ∧ iv = .int .i64 i ∧ Hid (l.take i = m.take i ∧ Mods None W wr)) (fun iv _ => (n - intOf iv).toNat)
    case atStart => exact ⟨0, Nat.zero_le _, rfl, Lib.hid ⟨rfl, Mods.refl _ _⟩⟩
    case round =>
      obtain ⟨i, hi, rfl, HO⟩ := hrel
      by_cases hlt : i < n
      · obtain ⟨x, hxi⟩ : ∃ x, l[i]? = some x := ⟨_, List.getElem?_eq_getElem (by rw [← HN.out.1]; exact hlt)⟩
        obtain ⟨y, hyi⟩ : ∃ y, m[i]? = some y := ⟨_, List.getElem?_eq_getElem (by rw [← HN.out.2]; exact hlt)⟩
        obtain ⟨oa', oc', he, -, hc⟩ := HI.out.mods HO.out.2 (fun k h => h)
        obtain ⟨g, o, rfl, -, d0, d1, d2, d3, d4⟩ := hc i x hxi
        simp only [Value.slice.injEq] at he
        obtain ⟨rfl, -, rfl⟩ := he
        obtain ⟨ob', od', he, -, hc'⟩ := HJ.out.mods HO.out.2 (fun k h => h)
        obtain ⟨g', o', rfl, -, b0, b1, b2, b3, b4⟩ := hc' i y hyi
        simp only [Value.slice.injEq] at he
        obtain ⟨rfl, -, rfl⟩ := he
        have hin : (i : Int) < n := by omega
        have HTK := Lib.hid (take_eq_next HO.out.1 hxi hyi)
        clear hc hc' hxi hyi
        by_cases hxy : x = y
        · subst hxy
          go_upto_region 6 with (fail)
          go_region
          all_goals
            go_wp2_with fail
            exact ⟨⟨i + 1, by omega, by go_num, Lib.hid ⟨HTK.out.1 rfl, HO.out.2.drew⟩⟩, by simp [intOf]; omega⟩
        · obtain ⟨xo, xd, xa, xb, xn⟩ := x
          obtain ⟨yo, yd, ya, yb, yn⟩ := y
          simp only at d0 d1 d2 d3 d4 b0 b1 b2 b3 b4
          by_cases he : xo = yo
          rotate_left
          · go_upto_region 6 with (fail)
            go_region
            all_goals
              go_wp2_with fail
              go_ret
              have hd : decide (l = m) = false := decide_eq_false (HTK.out.2 hxy)
              exact ⟨by first | rfl | (rw [hd]; rfl), HO.out.2.drew⟩
          · subst he
            by_cases he : xd = yd
            rotate_left
            · go_upto_region 6 with (fail)
              go_region
              all_goals
                go_wp2_with fail
                go_ret
                have hd : decide (l = m) = false := decide_eq_false (HTK.out.2 hxy)
                exact ⟨by first | rfl | (rw [hd]; rfl), HO.out.2.drew⟩
            · subst he
              by_cases he : xa = ya
              rotate_left
              · go_upto_region 6 with (fail)
                go_region
                all_goals
                  go_wp2_with fail
                  go_ret
                  have hd : decide (l = m) = false := decide_eq_false (HTK.out.2 hxy)
                  exact ⟨by first | rfl | (rw [hd]; rfl), HO.out.2.drew⟩
              · subst he
                by_cases he : xb = yb
                rotate_left
                · go_upto_region 6 with (fail)
                  go_region
                  all_goals
                    go_wp2_with fail
                    go_ret
                    have hd : decide (l = m) = false := decide_eq_false (HTK.out.2 hxy)
                    exact ⟨by first | rfl | (rw [hd]; rfl), HO.out.2.drew⟩
                · subst he
                  by_cases he : xn = yn
                  rotate_left
                  · go_upto_region 6 with (fail)
                    go_region
                    all_goals
                      go_wp2_with fail
                      go_ret
                      have hd : decide (l = m) = false := decide_eq_false (HTK.out.2 hxy)
                      exact ⟨by first | rfl | (rw [hd]; rfl), HO.out.2.drew⟩
                  · subst he
                    exact absurd rfl hxy
      · obtain rfl : i = n := by omega
        have hpi : ¬ (i : Int) < (i : Int) := by omega
        have h1 := HO.out
        rw [List.take_of_length_le (by rw [← HN.out.1]; exact Nat.le_refl _), List.take_of_length_le (by rw [← HN.out.2]; exact Nat.le_refl _)] at h1
        have hd : decide (l = m) = true := decide_eq_true h1.1
        go_wp2_with fail
        go_ret
        exact ⟨by first | rfl | (rw [hd]; rfl), h1.2⟩
  · have hnk2 : ¬ (n : Int) = k := by omega
    have hnb : ((n : Int) != k) = true := by simpa using hnk2
    have hd : decide (l = m) = false := decide_eq_false (fun e => hnk (by rw [HN.out.1, HN.out.2, e]))
    go_enter Tryz.func10, Tryz.ntmps10
    go_wp2_with fail
    go_ret
    exact ⟨by first | rfl | (rw [hd]; rfl), Mods.refl _ _⟩
end Go.Proofs.YtodgkbcgdbhpeaaGreatDoor.AsmP

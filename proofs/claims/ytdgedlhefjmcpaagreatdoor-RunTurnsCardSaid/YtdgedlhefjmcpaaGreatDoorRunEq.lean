/- slices.Equal of two lists of numbers. Conditions: that the arguments read as lists. -/
import Derived.Test.YtdgedlhefjmcpaaGreatDoorRunMem
namespace Go.Proofs.YtdgedlhefjmcpaaGreatDoor.TreeP
open Go.RowKit Go.Proofs.YtdgedlhefjmcpaaGreatDoor.Wo
set_option linter.unusedVariables false
set_option linter.unusedSimpArgs false
theorem getD_some {l : List Int} {i : Nat} (h : i < l.length) : l[i]? = some (l.getD i 0) := by simp [h]
theorem quiet_drew {W wr : World} (h : ∃ d, wr = W.drewN d) : ∃ d, wr.drew = W.drewN d := by
  obtain ⟨d, rfl⟩ := h
  exact ⟨d + 1, rfl⟩
theorem equal_len (a1 a2 : Option Addr) (n1 n2 c1 c2 : Nat) (W : World) (h : ¬ n1 = n2) (h1 : n1 ≤ maxLen) (h2 : n2 ≤ maxLen) :
    Calls Tryz.prog 24 #[.slice a1 n1 c1, .slice a2 n2 c2] W fun e W' => e = .returned (.bool false) ∧ ∃ d, W' = W.drewN d := by
  have hb : ((n1 : Int) != n2) = true := by simp; omega
  unfold maxLen at h1 h2
  go_enter Tryz.func24, Tryz.ntmps24
  go_wp2
  go_ret
  exact ⟨rfl, 0, rfl⟩
set_option maxHeartbeats 400000 in
theorem equal_quiet (v1 v2 : Value) (l1 l2 : List Int) (W : World) (h1 : InAt W None v1 l1) (h2 : InAt W None v2 l2) :
    Calls Tryz.prog 24 #[v1, v2] W fun e W' => e = .returned (.bool (l1 == l2)) ∧ ∃ d, W' = W.drewN d := by
  obtain ⟨a1, n1, c1, rfl, hn1, hnc1, hm1, hc1⟩ := h1
  obtain ⟨a2, n2, c2, rfl, hn2, hnc2, hm2, hc2⟩ := h2
  by_cases hne : n1 = n2
  · subst hne
    have HC1 := Lib.hid hc1
    have HC2 := Lib.hid hc2
    have HN1 := Lib.hid hn1
    have HN2 := Lib.hid hn2
    clear hn1 hn2 hc1 hc2
    have hb : ((n1 : Int) != n1) = false := by simp
    unfold maxLen at hm1 hm2
    go_enter Tryz.func24, Tryz.ntmps24
    go_wp2
    go_loopw [13] (fun v wr => ∃ i : Nat, i ≤ n1 ∧ v = .int .i64 i ∧ Hid (l1.take i = l2.take i) ∧ Hid (∃ d, wr = W.drewN d)) (fun v _ => (n1 - intOf v).toNat)
    case atStart => exact ⟨0, Nat.zero_le _, rfl, Lib.hid rfl, Lib.hid ⟨0, rfl⟩⟩
    case round =>
      obtain ⟨i, hi, rfl, heq, hq⟩ := hrel
      have hm : Hid (Mods None W wr) := Lib.hid (by obtain ⟨d, rfl⟩ := hq.out; exact (Mods.refl _ _).drewN d)
      by_cases hlt : i < n1
      · have hx1 := getD_some (l := l1) (i := i) (by rw [← HN1.out]; exact hlt)
        have hx2 := getD_some (l := l2) (i := i) (by rw [← HN2.out]; exact hlt)
        obtain ⟨x1, e1⟩ : ∃ x1, x1 = l1.getD i 0 := ⟨_, rfl⟩
        obtain ⟨x2, e2⟩ : ∃ x2, x2 = l2.getD i 0 := ⟨_, rfl⟩
        rw [← e1] at hx1
        rw [← e2] at hx2
        obtain ⟨g1, o1, he1, -, hc1⟩ := HC1.out i x1 hx1
        obtain ⟨g2, o2, he2, -, hc2⟩ := HC2.out i x2 hx2
        have hc1' := hm.out.cellOf hc1 (fun f => f)
        have hc2' := hm.out.cellOf hc2 (fun f => f)
        have HX1 := Lib.hid hx1
        have HX2 := Lib.hid hx2
        subst he1 he2
        clear hc1 hc2 hx1 hx2 e1 e2
        by_cases hx : x1 = x2
        · have hxb : (x1 != x2) = false := by simpa using hx
          have hnext : Hid (l1.take (i + 1) = l2.take (i + 1)) := Lib.hid (by
            have f1 := List.take_add_one (l := l1) (i := i)
            have f2 := List.take_add_one (l := l2) (i := i)
            rw [f1, f2, HX1.out, HX2.out, heq.out, hx])
          clear hx
          go_wp2
          go_region
          go_wp2
          go_roundw
          case rel => exact ⟨i + 1, by omega, by go_num, hnext, Lib.hid (quiet_drew hq.out)⟩
          case measure => simp [intOf]; omega
        · have hxb : (x1 != x2) = true := by simpa using hx
          have hfin : Hid ((l1 == l2) = false) := Lib.hid (by
            rw [beq_eq_false_iff_ne]
            intro e
            rw [e, HX2.out] at HX1
            have := HX1.out
            simp only [Option.some.injEq] at this
            exact hx this.symm)
          clear hx
          go_wp2
          go_region
          go_wp2
          go_ret
          rw [hfin.out]
          exact ⟨rfl, quiet_drew hq.out⟩
      · obtain rfl : i = n1 := by omega
        have hfin : Hid ((l1 == l2) = true) := Lib.hid (by
          have h3 := heq.out
          rw [List.take_of_length_le (by rw [← HN1.out]; exact Nat.le_refl _), List.take_of_length_le (by rw [← HN2.out]; exact Nat.le_refl _)] at h3
          rw [h3]; simp)
        go_wp2
        go_ret
        rw [hfin.out]
        exact ⟨rfl, hq.out⟩
  · have hl : (l1 == l2) = false := by
      rw [beq_eq_false_iff_ne]
      intro e
      rw [hn1, hn2, e] at hne
      exact hne rfl
    rw [hl]
    exact equal_len a1 a2 n1 n2 c1 c2 W hne (by omega) (by omega)
theorem equal_any (v1 v2 : Value) (l1 l2 : List Int) (W : World) (h1 : InAt W None v1 l1) (h2 : InAt W None v2 l2) :
    Calls Tryz.prog 24 #[v1, v2] W fun e W' => e = .returned (.bool (l1 == l2)) ∧ Mods None W W' :=
  (equal_quiet v1 v2 l1 l2 W h1 h2).mono fun e W' ⟨he, d, hd⟩ => ⟨he, by rw [hd]; exact (Mods.refl _ _).drewN d⟩
end Go.Proofs.YtdgedlhefjmcpaaGreatDoor.TreeP

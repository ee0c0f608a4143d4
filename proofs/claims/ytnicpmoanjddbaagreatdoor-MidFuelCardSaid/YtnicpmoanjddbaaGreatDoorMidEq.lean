/- The number that is picked; lists of numbers held to one another; ends that are one. Printed by mkmeq.py. Conditions: what is asked lies. -/
import Derived.Test.YtnicpmoanjddbaaGreatDoorMidRnA
import Derived.Deep.QuietTactic
import Derived.BigQuiet
import Derived.Deep.DeepCutAuto
namespace Go.Proofs.YtnicpmoanjddbaaGreatDoor.MidP
open Go.RowKit Go.Proofs.YtnicpmoanjddbaaGreatDoor.Wo Go.Maps Go.Proofs.YtnicpmoanjddbaaGreatDoor.TreeP
set_option linter.unusedVariables false
set_option linter.unusedSimpArgs false
/-- The number that is picked. -/
def pkn (a n : Int) : Int := a % 18446744073709551616 % n
theorem pkn_in (a n : Int) (h : 1 ≤ n) : 0 ≤ pkn a n ∧ pkn a n < n := by
  unfold pkn
  exact ⟨Int.emod_nonneg _ (by omega), Int.emod_lt_of_pos _ (by omega)⟩
theorem pick_any (a n : Int) (W : World) (h1 : 1 ≤ n) (h2 : n ≤ 4611686018427387904) :
    Calls Tryz.prog 8 #[.int .i64 a, .int .i64 n] W fun e W' => e = .returned (.int .i64 (pkn a n)) ∧ W = W' := by
  have hn : IntKind.u64.wrap n = n := by rw [IntKind.wrap_u64]; omega
  have hp := pkn_in a n h1
  have h0 : (n == 0) = false := by simp; omega
  have hr : wrap64 ((IntKind.u64.wrap a).tmod n) = pkn a n := by
    rw [IntKind.wrap_u64, Int.tmod_eq_emod_of_nonneg (by omega)]
    show wrap64 (pkn a n) = pkn a n
    unfold wrap64; omega
  have HR := Lib.hid hr
  clear hr hp
  go_enter Tryz.func8, Tryz.ntmps8
  go_wp2
  go_ret
  refine ⟨?_, rfl⟩
  rw [← HR.out]
  rfl
theorem getD_some {l : List Int} {i : Nat} (h : i < l.length) : l[i]? = some (l.getD i 0) := by simp [h]
theorem quiet_drew {W wr : World} (h : ∃ d, wr = W.drewN d) : ∃ d, wr.drew = W.drewN d := by
  obtain ⟨d, rfl⟩ := h
  exact ⟨d + 1, rfl⟩
theorem equal_len (a1 a2 : Option Addr) (n1 n2 c1 c2 : Nat) (W : World) (h : ¬ n1 = n2) (h1 : n1 ≤ maxLen) (h2 : n2 ≤ maxLen) :
    Calls Tryz.prog 11 #[.slice a1 n1 c1, .slice a2 n2 c2] W fun e W' => e = .returned (.bool false) ∧ ∃ d, W' = W.drewN d := by
  have hb : ((n1 : Int) != n2) = true := by simp; omega
  unfold maxLen at h1 h2
  go_enter Tryz.func11, Tryz.ntmps11
  go_wp2
  go_ret
  exact ⟨rfl, 0, rfl⟩
set_option maxHeartbeats 400000 in
theorem equal_quiet (v1 v2 : Value) (l1 l2 : List Int) (W : World) (h1 : InAt W None v1 l1) (h2 : InAt W None v2 l2) :
    Calls Tryz.prog 11 #[v1, v2] W fun e W' => e = .returned (.bool (l1 == l2)) ∧ ∃ d, W' = W.drewN d := by
  obtain ⟨a1, n1, c1, rfl, hn1, hnc1, hm1, hc1⟩ := h1
  obtain ⟨a2, n2, c2, rfl, hn2, hnc2, hm2, hc2⟩ := h2
  by_cases hne : n1 = n2
  · subst hne
    have HC1 := Lib.hid hc1
    have HC2 := Lib.hid hc2
    have HN1 := Lib.hid hn1
    have HN2 := Lib.hid hn2
    clear hn1 hn2 hc1 hc2
    have hb : ((n1 : Int) != n1) = false := by simp
    unfold maxLen at hm1 hm2
    go_enter Tryz.func11, Tryz.ntmps11
    go_wp2
    go_loopw [13] (fun v wr => ∃ i : Nat, i ≤ n1 ∧ v = .int .i64 i ∧ Hid (l1.take i = l2.take i) ∧ Hid (∃ d, wr = W.drewN d)) (fun v _ => (n1 - intOf v).toNat)
    case atStart => exact ⟨0, Nat.zero_le _, rfl, Lib.hid rfl, Lib.hid ⟨0, rfl⟩⟩
    case round =>
      obtain ⟨i, hi, rfl, heq, hq⟩ := hrel
      have hm : Hid (Mods None W wr) := Lib.hid (by obtain ⟨d, rfl⟩ := hq.out; exact (Mods.refl _ _).drewN d)
      by_cases hlt : i < n1
      · have hx1 := getD_some (l := l1) (i := i) (by rw [← HN1.out]; exact hlt)
        have hx2 := getD_some (l := l2) (i := i) (by rw [← HN2.out]; exact hlt)
        obtain ⟨x1, e1⟩ : ∃ x1, x1 = l1.getD i 0 := ⟨_, rfl⟩
        obtain ⟨x2, e2⟩ : ∃ x2, x2 = l2.getD i 0 := ⟨_, rfl⟩
        rw [← e1] at hx1
        rw [← e2] at hx2
        obtain ⟨g1, o1, he1, -, hc1⟩ := HC1.out i x1 hx1
        obtain ⟨g2, o2, he2, -, hc2⟩ := HC2.out i x2 hx2
        have hc1' := hm.out.cellOf hc1 (fun f => f)
        have hc2' := hm.out.cellOf hc2 (fun f => f)
        have HX1 := Lib.hid hx1
        have HX2 := Lib.hid hx2
        subst he1 he2
        clear hc1 hc2 hx1 hx2 e1 e2
        by_cases hx : x1 = x2
        · have hxb : (x1 != x2) = false := by simpa using hx
          have hnext : Hid (l1.take (i + 1) = l2.take (i + 1)) := Lib.hid (by
            have f1 := List.take_add_one (l := l1) (i := i)
            have f2 := List.take_add_one (l := l2) (i := i)
            rw [f1, f2, HX1.out, HX2.out, heq.out, hx])
          clear hx
          go_wp2
          go_region
          go_wp2
          go_roundw
          case rel => exact ⟨i + 1, by omega, by go_num, hnext, Lib.hid (quiet_drew hq.out)⟩
          case measure => simp [intOf]; omega
        · have hxb : (x1 != x2) = true := by simpa using hx
          have hfin : Hid ((l1 == l2) = false) := Lib.hid (by
            rw [beq_eq_false_iff_ne]
            intro e
            rw [e, HX2.out] at HX1
            have := HX1.out
            simp only [Option.some.injEq] at this
            exact hx this.symm)
          clear hx
          go_wp2
          go_region
          go_wp2
          go_ret
          rw [hfin.out]
          exact ⟨rfl, quiet_drew hq.out⟩
      · obtain rfl : i = n1 := by omega
        have hfin : Hid ((l1 == l2) = true) := Lib.hid (by
          have h3 := heq.out
          rw [List.take_of_length_le (by rw [← HN1.out]; exact Nat.le_refl _), List.take_of_length_le (by rw [← HN2.out]; exact Nat.le_refl _)] at h3
          rw [h3]; simp)
        go_wp2
        go_ret
        rw [hfin.out]
        exact ⟨rfl, hq.out⟩
  · have hl : (l1 == l2) = false := by
      rw [beq_eq_false_iff_ne]
      intro e
      rw [hn1, hn2, e] at hne
      exact hne rfl
    rw [hl]
    exact equal_len a1 a2 n1 n2 c1 c2 W hne (by omega) (by omega)
theorem equal_any (v1 v2 : Value) (l1 l2 : List Int) (W : World) (h1 : InAt W None v1 l1) (h2 : InAt W None v2 l2) :
    Calls Tryz.prog 11 #[v1, v2] W fun e W' => e = .returned (.bool (l1 == l2)) ∧ Mods None W W' :=
  (equal_quiet v1 v2 l1 l2 W h1 h2).mono fun e W' ⟨he, d, hd⟩ => ⟨he, by rw [hd]; exact (Mods.refl _ _).drewN d⟩
theorem in_shape {W : World} {S : Nat → Prop} {v : Value} {l : List Int} (h : InAt W S v l) : ∃ a c, v = .slice a l.length c ∧ l.length ≤ c ∧ c ≤ 9223372036854775807 := by
  obtain ⟨a', n', c', e, h1, h2, h3, h4⟩ := h
  subst h1
  exact ⟨a', c', e, h2, h3⟩
theorem EndV.form {W : World} {x : Int × Int × List Int} {v : Value} (h : EndV W x v) : ∃ oa n oc, v = .agg #[.int .i64 x.1, .int .i64 x.2.1, .slice oa n oc] ∧ n = x.2.2.length ∧ n ≤ oc ∧ oc ≤ 9223372036854775807 ∧ InAt W None (.slice oa n oc) x.2.2 ∧ (oa = none → oc = 0) := by
  obtain ⟨oa, oc, h1, h2, h3, h4⟩ := h
  obtain ⟨a', n', c', e, k1, k2, k3, k4⟩ := h2
  obtain ⟨rfl, rfl, rfl⟩ := Value.slice.inj e
  exact ⟨oa, _, oc, h1, rfl, k2, k3, ⟨_, _, _, rfl, rfl, k2, k3, k4⟩, h4⟩
set_option maxRecDepth 100000 in
set_option maxHeartbeats 1000000 in
/-- Two ends that are one. -/
theorem same_end (x : Int × Int × List Int) (u v : Value) (W : World) (hu : EndV W x u) (hv : EndV W x v) :
    Calls Tryz.prog 12 #[u, v] W fun e w => e = .returned (.bool true) ∧ Mods None W w := by
  obtain ⟨xa, n, xc, rfl, hn, hx1, hx2, hxi, hx0⟩ := hu.form
  obtain ⟨ya, m, yc, rfl, hm, hy1, hy2, hyi, hy0⟩ := hv.form
  obtain rfl : n = m := by omega
  obtain ⟨x1, x2, o⟩ := x
  simp only at hxi hyi hn ⊢
  obtain ⟨W3, hW3⟩ : ∃ W3, W3 = ((W.alloc (.cells #[.int .i64 x1, .int .i64 x2, .slice xa n xc] 31)).alloc (.cells #[.int .i64 x1, .int .i64 x2, .slice ya n yc] 31)) := ⟨_, rfl⟩
  have hm3 : Mods None W W3 := by rw [hW3]; exact ((Mods.refl _ _).alloc _).alloc _
  have HM := Lib.hid hm3
  have HBX : Blk W3 W.heap.size [.int .i64 x1, .int .i64 x2, .slice xa n xc] 31 := by rw [hW3]; exact (Blk.new W _ _).alloc _
  have HBY : Blk W3 (W.heap.size + 1) [.int .i64 x1, .int .i64 x2, .slice ya n yc] 31 := by
    rw [hW3]
    have := Blk.new (W.alloc (.cells #[.int .i64 x1, .int .i64 x2, .slice xa n xc] 31)) #[.int .i64 x1, .int .i64 x2, .slice ya n yc] 31
    simpa using this
  have cx0 := HBX.cell (i := 0) rfl
  have cx1 := HBX.cell (i := 1) rfl
  have cx2 := HBX.cell (i := 2) rfl
  have cy0 := HBY.cell (i := 0) rfl
  have cy1 := HBY.cell (i := 1) rfl
  have cy2 := HBY.cell (i := 2) rfl
  have hb1 : (x1 == x1) = true := beq_self_eq_true _
  have hb2 : (x2 == x2) = true := beq_self_eq_true _
  have HQ := Lib.hid (equal_any _ _ o o W3 (hxi.mods hm3 (fun _ _ f => f)) (hyi.mods hm3 (fun _ _ f => f)))
  clear hu hv hn hm hxi hyi hm3 HBX HBY hx0 hy0
  go_enter Tryz.func12, Tryz.ntmps12
  go_upto_region 1 with (fail)
  rw [← hW3]
  clear hW3
  go_wp2_with fail
  go_at_call 11
  refine HQ.out.mono ?_
  rintro e w ⟨rfl, hm⟩
  have HM2 := Lib.hid (HM.out.trans hm)
  clear hm
  rw [beq_self_eq_true]
  go_wp2_with fail
  go_ret
  exact ⟨rfl, HM2.out⟩
end Go.Proofs.YtnicpmoanjddbaaGreatDoor.MidP

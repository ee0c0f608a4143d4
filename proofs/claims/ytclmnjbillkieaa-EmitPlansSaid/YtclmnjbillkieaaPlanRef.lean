/- Where all lies, by the document: a contract of bloomeryref.Plan, of words and bytes from 0 to 2^20. -/
import Derived.Test.YtclmnjbillkieaaPlan
import Derived.Lib.Hide
import Derived.StillTailTactics
namespace Go.Proofs.Ytclmnjbillkieaa.PlanP
open Go.RowKit AluP
set_option linter.unusedVariables false

theorem cut_any (n m : Int) (w : World) (hn : 0 ≤ n ∧ n ≤ 1099511627776) (hm : n - n % 8 = m) :
    Calls Try.prog 13 #[.int .i64 n] w fun e w' => e = .returned (.int .i64 m) ∧ w' = w := by
  go_enter Try.func13, Try.ntmps13
  go_wp2
  go_ret
  exact ⟨rfl, rfl⟩

set_option maxRecDepth 100000 in
set_option maxHeartbeats 8000000 in
theorem rplan_walk (a b c r d e h : Int) (w : World) (ha : Range a) (hb : Range b)
    (h1 : ∀ w, Calls Try.prog 13 #[.int .i64 (4 * a + 7)] w fun e w' => e = .returned (.int .i64 c) ∧ w' = w)
    (h2 : ∀ w, Calls Try.prog 13 #[.int .i64 (r / 8)] w fun e w' => e = .returned (.int .i64 d) ∧ w' = w)
    (h3 : ∀ w, Calls Try.prog 13 #[.int .i64 (r / 4)] w fun e' w' => e' = .returned (.int .i64 e) ∧ w' = w)
    (h4 : ∀ w, Calls Try.prog 13 #[.int .i64 ((r - d - e) / 2)] w fun e w' => e = .returned (.int .i64 h) ∧ w' = w)
    (hc : 0 ≤ c ∧ c ≤ 8388608) (hr : r = if b < c then 0 else b - c) (hd : 0 ≤ d ∧ d ≤ r / 8) (he : 0 ≤ e ∧ e ≤ r / 4) (hh : 0 ≤ h ∧ h ≤ 8388608) (hzero : r - d - e = 0 → h = 0) :
    Calls Try.prog 8 #[.int .i64 a, .int .i64 b] w fun e' w' => e' = .returned (.agg #[.int .i64 c, .int .i64 c, .int .i64 (c + d), .int .i64 (c + d + h), .int .i64 (b - e), .int .i64 b]) ∧ Grown w w' := by
  unfold Range at ha hb
  have H1 := Lib.hid h1
  have H2 := Lib.hid h2
  have H3 := Lib.hid h3
  have H4 := Lib.hid h4
  clear h1 h2 h3 h4
  by_cases hl : b < c
  · rw [if_pos hl] at hr
    subst hr
    obtain rfl : d = 0 := by omega
    obtain rfl : e = 0 := by omega
    have hlt : b - c < 0 := by omega
    have s1 : IntKind.i64.wrap 0 = 0 := rfl
    have s2 : IntKind.i64.wrap c = c := IntWalk.i64_in _ (by omega)
    have s7 : IntKind.i64.wrap (c + h) = c + h := IntWalk.i64_in _ (by omega)
    have H5 : Hid (∀ w, Calls Try.prog 13 #[.int .i64 0] w fun e w' => e = .returned (.int .i64 0) ∧ w' = w) := Lib.hid (fun w => cut_any 0 0 w (by omega) rfl)
    obtain rfl : h = 0 := hzero rfl
    go_enter Try.func8, Try.ntmps8
    go_wp2_with (go_at_call 13; with_reducible refine (H1.out _).mono ?_; rintro e _ ⟨rfl, rfl⟩)
    refine wp_region_still_tail 8 (by kernel_rfl) (by kernel_rfl) ?_
    simp only [List.take_succ_cons, List.take_zero, List.drop_succ_cons, List.drop_zero]
    change wpStill _ _ (World.drew _) _ _ _
    repeat (first | still_step | still_call (H5.out _))
    refine wpStill_nil ?_
    change wpList _ _ _ _ _ (World.drew _)
    go_wp2_with (go_at_call 13; refine (H5.out _).mono ?_; rintro e _ ⟨rfl, rfl⟩)
    refine wp_region_still_tail 18 (by kernel_rfl) (by kernel_rfl) ?_
    simp only [List.take_succ_cons, List.take_zero, List.drop_succ_cons, List.drop_zero]
    change wpStill _ _ (World.drew _) _ _ _
    repeat (first | still_step | still_call (H5.out _))
    refine wpStill_nil ?_
    change wpList _ _ _ _ _ (World.drew _)
    go_wp2
    refine bodyPost_ret (v := .agg #[.int .i64 c, .int .i64 c, .int .i64 c, .int .i64 c, .int .i64 b, .int .i64 b]) (by simp [results, Try.results8, go_sem]) rfl ⟨?_, ?_⟩
    · exact ret_agg (arr6 rfl rfl (by omega) (by omega) (by omega) rfl)
    · repeat (first | exact Grown.refl _ | apply Grown.drew | apply Grown.alloc)
  · rw [if_neg hl] at hr
    have hr' : b - c = r := hr.symm
    have hr0 : 0 ≤ r ∧ r ≤ 1048576 := by omega
    clear hr
    have s1 : IntKind.i64.wrap (r.tdiv 8) = r / 8 := IntWalk.i64_quo _ _ (by omega)
    have s2 : IntKind.i64.wrap (c + d) = c + d := IntWalk.i64_in _ (by omega)
    have s3 : IntKind.i64.wrap (r - d) = r - d := IntWalk.i64_in _ (by omega)
    have s4 : IntKind.i64.wrap (r - d - e) = r - d - e := IntWalk.i64_in _ (by omega)
    have s5 : IntKind.i64.wrap ((r - d - e).tdiv 2) = (r - d - e) / 2 := IntWalk.i64_quo _ _ (by omega)
    have s6 : IntKind.i64.wrap (r.tdiv 4) = r / 4 := IntWalk.i64_quo _ _ (by omega)
    have s7 : IntKind.i64.wrap (c + d + h) = c + d + h := IntWalk.i64_in _ (by omega)
    go_enter Try.func8, Try.ntmps8
    go_wp2_with (go_at_call 13; with_reducible refine (H1.out _).mono ?_; rintro e _ ⟨rfl, rfl⟩)
    refine wp_region_still_tail 8 (by kernel_rfl) (by kernel_rfl) ?_
    simp only [List.take_succ_cons, List.take_zero, List.drop_succ_cons, List.drop_zero]
    change wpStill _ _ (World.drew _) _ _ _
    repeat (first | still_step | still_call (H2.out _))
    refine wpStill_nil ?_
    change wpList _ _ _ _ _ (World.drew _)
    go_wp2_with (go_at_call 13; refine (H3.out _).mono ?_; rintro e _ ⟨rfl, rfl⟩)
    refine wp_region_still_tail 18 (by kernel_rfl) (by kernel_rfl) ?_
    simp only [List.take_succ_cons, List.take_zero, List.drop_succ_cons, List.drop_zero]
    change wpStill _ _ (World.drew _) _ _ _
    repeat (first | still_step | still_call (H2.out _) | still_call (H3.out _) | still_call (H4.out _))
    refine wpStill_nil ?_
    change wpList _ _ _ _ _ (World.drew _)
    go_wp2
    refine bodyPost_ret (v := .agg #[.int .i64 c, .int .i64 c, .int .i64 (c + d), .int .i64 (c + d + h), .int .i64 (b - e), .int .i64 b]) (by simp [results, Try.results8, go_sem]) rfl ⟨rfl, ?_⟩
    repeat (first | exact Grown.refl _ | apply Grown.drew | apply Grown.alloc)
theorem rplan_any (a b : Int) (ha : Range a) (hb : Range b) (w : World) :
    Calls Try.prog 8 #[.int .i64 a, .int .i64 b] w fun e' w' => e' = .returned (plan a b) ∧ Grown w w' := by
  have hr := rest_in a b ha hb
  have hc := cut_le (n := 4 * a + 7) (by unfold Range at ha; omega)
  have h8 := cut_le (n := rest a b / 8) (by omega)
  have h4 := cut_le (n := rest a b / 4) (by omega)
  have hh := cut_le (n := (rest a b - cut (rest a b / 8) - cut (rest a b / 4)) / 2) (by omega)
  have ha' := ha
  unfold Range at ha'
  exact rplan_walk a b (cut (4 * a + 7)) (rest a b) (cut (rest a b / 8)) (cut (rest a b / 4)) (cut ((rest a b - cut (rest a b / 8) - cut (rest a b / 4)) / 2)) w ha hb
    (fun w => cut_any _ _ w (by omega) rfl) (fun w => cut_any _ _ w (by omega) rfl) (fun w => cut_any _ _ w (by omega) rfl) (fun w => cut_any _ _ w (by omega) rfl) ⟨hc.1, by omega⟩ rfl h8 h4 ⟨hh.1, by omega⟩
    (fun h => by rw [h]; rfl)
end Go.Proofs.Ytclmnjbillkieaa.PlanP

/- Proved: for every number of words and of bytes the law EmitApart returns true: code, roots, both spaces and the stack lie one behind the other, at multiples of eight. Conditions: none. -/
import Derived.Test.YtclmnjbillkieaaRows
import Derived.WalkKit
import Derived.ProofKit
import Derived.OpenShut
import Derived.Lib.Hide
import Derived.Test.YtclmnjbillkieaaPlan
namespace Go.Proofs.Ytclmnjbillkieaa.emitApart
open Go.ChangeShapes Go.WideShapes Go.ChangeAt Go.RowKit
set_option linter.unusedVariables false      -- a walk need not use every 'w<i>' (that an integer argument fits its kind)

theorem own : ownKnob Try.prog.godebug = none := by kernel_rfl

theorem grown_trans {w w1 w2 : World} (h : Grown w w1) (h' : Grown w1 w2) : Grown w w2 :=
  ⟨World.keptBut_trans h.1 (World.keptBut_mono (fun _ f => f.elim) h'.1), fun a => (h'.2.1 a).trans (h.2.1 a), Nat.le_trans h.2.2 h'.2.2⟩
def pk (a n : Int) : Int := (a % 18446744073709551616) % n
theorem pk_in (a n : Int) (hn : 1 ≤ n) : 0 ≤ pk a n ∧ pk a n < n := by
  unfold pk; exact ⟨Int.emod_nonneg _ (by omega), Int.emod_lt_of_pos _ (by omega)⟩
theorem pick_any (a n : Int) (hn : 1 ≤ n ∧ n ≤ 4294967296) (w : World) :
    Calls Try.prog 10 #[.int .i64 a, .int .i64 n] w fun e w' => e = .returned (.int .i64 (pk a n)) ∧ w = w' := by
  have h1 : IntKind.u64.wrap n = n := by rw [IntKind.wrap_u64]; omega
  have h0 : ¬ n = 0 := by omega
  have hp := pk_in a n hn.1
  have h2 : (IntKind.u64.wrap a).tmod n = pk a n := by
    unfold pk; rw [IntKind.wrap_u64, Int.tmod_eq_emod_of_nonneg (by omega)]
  go_enter Try.func10, Try.ntmps10
  go_wp2
  go_ret
  exact ⟨rfl, rfl⟩
theorem plan10 : PlanP.plan 10 1040 = .agg #[.int .i64 40, .int .i64 40, .int .i64 160, .int .i64 472, .int .i64 792, .int .i64 1040] := by rfl
theorem planned_any (w : World) : Calls Try.prog 9 #[] w fun e w' => e = .returned (.bool true) ∧ Grown w w' := by
  have H1 := Lib.hid (PlanP.plan_any 10 1040 ⟨by decide, by decide⟩ ⟨by decide, by decide⟩)
  rw [plan10] at H1
  go_enter Try.func9, Try.ntmps9
  go_wp2_with (go_at_call 7; refine (H1.out _).mono ?_; rintro e w1 ⟨rfl, g1⟩)
  go_ret
  exact ⟨rfl, g1⟩
theorem facts (a b : Int) (ha : PlanP.Range a) (hb : PlanP.Range b) (h8 : b % 8 = 0) :
    ∃ c d h e : Int, PlanP.plan a b = .agg #[.int .i64 c, .int .i64 c, .int .i64 (c + d), .int .i64 (c + d + h), .int .i64 (b - e), .int .i64 b] ∧
      (4 * a ≤ c ∧ c ≤ 8388608) ∧ c % 8 = 0 ∧ (c + d) % 8 = 0 ∧ (c + d + h) % 8 = 0 ∧ (b - e) % 8 = 0 ∧ (0 ≤ d ∧ 0 ≤ h ∧ 0 ≤ e ∧ e ≤ 1048576) ∧
      (4 * a + 7 ≤ b → c + d + h + h ≤ b - e) := by
  have hr := PlanP.rest_in a b ha hb
  refine ⟨PlanP.cut (4 * a + 7), PlanP.cut (PlanP.rest a b / 8), PlanP.cut ((PlanP.rest a b - PlanP.cut (PlanP.rest a b / 8) - PlanP.cut (PlanP.rest a b / 4)) / 2), PlanP.cut (PlanP.rest a b / 4), rfl, ?_⟩
  have hrr : PlanP.rest a b = if b < PlanP.cut (4 * a + 7) then 0 else b - PlanP.cut (4 * a + 7) := rfl
  generalize PlanP.rest a b = r at *
  unfold PlanP.Range at ha hb
  unfold PlanP.cut at *
  refine ⟨⟨by omega, by omega⟩, by omega, by omega, by omega, by omega, ⟨by omega, by omega, by omega, by omega⟩, ?_⟩
  intro h
  split at hrr <;> omega
/-! ### STEP 1: THE WALK: the Go text returns true. 'Grown w w'': the world has at most new blocks (Derived/RowKit3.lean). Part the cases AHEAD of 'go_enter' where a test parts the walk; take each callee by a contract of your own. -/
theorem walk (a0 : Int) (a1 : Int) (w0 : (Lit.int .i64 a0).wf = true) (w1 : (Lit.int .i64 a1).wf = true) (w : World) :
    Calls Try.prog 4 #[.int .i64 a0, .int .i64 a1] w fun e w' => e = .returned (.bool true) ∧ Grown w w' := by
  have hp1 := pk_in a0 16384 (by omega)
  have hp2 := pk_in a1 8192 (by omega)
  have K1 := Lib.hid (pick_any a0 16384 (by omega))
  have K2 := Lib.hid (pick_any a1 8192 (by omega))
  generalize pk a0 16384 = x at *
  generalize pk a1 8192 = y at *
  have H1 := Lib.hid (PlanP.plan_any x (8 * y) ⟨by omega, by omega⟩ ⟨by omega, by omega⟩)
  obtain ⟨c, d, h, e, hpl, hc, hc8, hd8, hh8, he8, hb8, hfit⟩ := facts x (8 * y) ⟨by omega, by omega⟩ ⟨by omega, by omega⟩ (by omega)
  rw [hpl] at H1
  clear hpl w0 w1
  go_enter Try.func4, Try.ntmps4
  go_wp2_with (first | (go_at_call 9; refine (planned_any _).mono ?_; rintro e' w1 ⟨rfl, g1⟩) | (go_at_call 10; (first | (with_reducible refine (K1.out _).mono ?_) | (with_reducible refine (K2.out _).mono ?_)); rintro e _ ⟨rfl, rfl⟩) | (go_at_call 7; refine (H1.out _).mono ?_; rintro e w2 ⟨rfl, g2⟩))
  · go_ret
    exact ⟨rfl, (grown_trans g1 g2).alloc _ _⟩
  · have hq : 4 * x + 7 ≤ 8 * y := by assumption
    have hf := hfit hq
    have hnn : 0 ≤ 8 * y - e ∧ 8 * y - e ≤ 65536 := by omega
    clear hfit
    go_loop [47] (fun i => ∃ k : Nat, k ≤ 5 ∧ i = .int .i64 k) (fun i => 5 - (intOf i).toNat)
    case atStart => exact ⟨0, by omega, rfl⟩
    case round =>
      obtain ⟨k, hk, rfl⟩ := hrel
      have hk' : k = 0 ∨ k = 1 ∨ k = 2 ∨ k = 3 ∨ k = 4 ∨ k = 5 := by omega
      rcases hk' with rfl | rfl | rfl | rfl | rfl | rfl
      case inr.inr.inr.inr.inr =>
        go_wp2
        go_ret
        exact ⟨rfl, by repeat (first | exact grown_trans g1 g2 | apply Grown.drew | apply Grown.alloc)⟩
      all_goals
        go_wp2
        go_round
        case rel => exact ⟨_, by decide, rfl⟩
        case measure => simp [intOf]

/-! ### THE ROW's STEP: WRITTEN OUT: LEAVE IT -/
set_option maxRecDepth 100000 in
theorem lifted (os : Os) (started : os.Started) (H : Type) (enc : TypeId × Value → H) :
    ReturnsInHanded {} Try.checked os 4 .any (Rows.emitApartSpec.pre6 enc Try.prog Try.f4 Rows.emitApartRow.domain false) (Rows.emitApartSpec.post enc Try.prog Try.f4 false true false false) := by
  refine returnsInHanded_of_change (C := Try.checked) own started (by kernel_rfl) Try.func4
    (ChangeSpec.witness6 (enc := enc) (C := Try.checked) false ⟨#[], #[.int .i64 0, .int .i64 0], []⟩ 8 (by kernel_rfl) (by kernel_rfl) (by kernel_rfl) (by kernel_rfl)) ?_
  intro W base args ds gs before hval0 hW hcnd _
  have hval : ∀ (j : Nat) t v, Try.f4.params[j]? = some t → args[j]? = some v → Value.okWide Try.prog W .any base t v := hval0
  have hW' := hW
  obtain ⟨p, q, hA0, hV, rfl, hfz, hnd⟩ := hW
  have hA : DataW.TrodAll enc Try.prog W 0 (fun _ => true) true Try.f4.params.toList args.toList ds p := hA0
  rw [Try.params4] at hA hval
  obtain ⟨v0, vs0, d0, ds0, p0, q0, hargs, rfl, rfl, h0, r0⟩ := trodAll_cons hA
  obtain ⟨v1, vs1, d1, ds1, p1, q1, rfl, rfl, rfl, h1, r1⟩ := trodAll_cons r0
  obtain ⟨rfl, rfl, rfl⟩ := trodAll_nil r1
  obtain rfl : args = #[v0, v1] := by cases args; simp_all
  obtain ⟨rfl, rfl⟩ := trodVars_none hV
  obtain ⟨a0, rfl, rfl, rfl, w0⟩ := open_int Try.underlying3 (hval 0 3 v0 rfl rfl) h0
  obtain ⟨a1, rfl, rfl, rfl, w1⟩ := open_int Try.underlying3 (hval 1 3 v1 rfl rfl) h1
  clear hA0 hval0
  simp only [List.append_nil] at hW'
  refine (walk a0 a1 w0 w1 W).mono fun e W' ⟨he, hg⟩ => ?_
  subst he
  exact ⟨_, rfl, post_of_same (pa := []) (pv := []) hW' (fun _ _ _ => (trodAll_cons_mk (shut_bool Try.underlying4 _) trodAll_mk0)) (fun sp _ => (trodAll_cons_mk (shut_int Try.underlying3 w0) (trodAll_cons_mk (shut_int Try.underlying3 w1) trodAll_mk0))) (fun _ _ => rfl) rfl
    (hg.frame _) hg.2.1 (ok_one (by kernel_rfl) rfl (okWide_bool_mk Try.underlying4 _))⟩

theorem over : Rows.emitApartRow.holds Try.pinned (OpenSpec.ofChange Rows.emitApartSpec) :=
  OpenClaim.holds_of_wide 4 Try.f4 rfl rfl rfl rfl rfl rfl rfl ⟨rfl, rfl, rfl, rfl, rfl⟩ rfl rfl rfl rfl rfl (by kernel_rfl) Try.func4 (by kernel_rfl)
    (of_decide_eq_true (by kernel_rfl)) (by unfold Func.isWrapper; first | (rw [if_pos (by decide +kernel)]; kernel_rfl) | (rw [if_neg (by decide +kernel)]; exact ⟨rfl, rfl⟩))
    (fun os started H enc _ => lifted os started H enc)

/-- The statement. -/
theorem proved : Rows.EmitApartSaid :=
  over
#print axioms proved
end Go.Proofs.Ytclmnjbillkieaa.emitApart

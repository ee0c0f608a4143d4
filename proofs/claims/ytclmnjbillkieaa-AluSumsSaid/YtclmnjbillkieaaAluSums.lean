/- Proved: for any two numbers of 64 bits and any n the law AluSums returns true: what the machine's ops take apart they put together. Conditions: none. -/
import Derived.Test.YtclmnjbillkieaaRows
import Derived.WalkKit
import Derived.ProofKit
import Derived.OpenShut
import Derived.Lib.Hide
import Derived.Deep.DeepCutAuto
import Derived.Test.YtclmnjbillkieaaAluRef
import Derived.Test.YtclmnjbillkieaaAluLaws
namespace Go.Proofs.Ytclmnjbillkieaa.aluSums
open Go.ChangeShapes Go.WideShapes Go.ChangeAt Go.RowKit
set_option linter.unusedVariables false
set_option maxHeartbeats 4000000
set_option maxRecDepth 100000

theorem own : ownKnob Try.prog.godebug = none := by kernel_rfl

def pk (a n : Int) : Int := (a % 18446744073709551616) % n
theorem pk_in (a n : Int) (hn : 1 ≤ n) : 0 ≤ pk a n ∧ pk a n < n := by
  unfold pk; exact ⟨Int.emod_nonneg _ (by omega), Int.emod_lt_of_pos _ (by omega)⟩
theorem pick_any (a n : Int) (hn : 1 ≤ n ∧ n ≤ 4294967296) (w : World) :
    Calls Try.prog 10 #[.int .i64 a, .int .i64 n] w fun e w' => e = .returned (.int .i64 (pk a n)) ∧ w = w' := by
  have h1 : IntKind.u64.wrap n = n := by rw [IntKind.wrap_u64]; omega
  have h0 : ¬ n = 0 := by omega
  have hp := pk_in a n hn.1
  have h2 : (IntKind.u64.wrap a).tmod n = pk a n := by
    unfold pk; rw [IntKind.wrap_u64, Int.tmod_eq_emod_of_nonneg (by omega)]
  go_enter Try.func10, Try.ntmps10
  go_wp2
  go_ret
  exact ⟨rfl, rfl⟩
theorem op_closed1 : AluP.alu 1 2 3 = 5 := by decide
theorem op_closed2 : AluP.alu 4 (-7) 2 = -3 := by decide
theorem way1 (a b : Int) (ha : AluP.I64 a) : (b == 0) = false ∧ (b != 0) = true ∧ AluP.alu 1 (AluP.alu 3 (AluP.alu 4 a b) b) (AluP.alu 5 a b) = a ∨ b = 0 := by
  by_cases h : b = 0
  · exact .inr h
  · exact .inl ⟨by simpa using h, by simpa using h, AluP.law_quo a b ha h⟩
theorem way2 (a b : Int) : (AluP.alu 5 a b != 0) = false ∨ (AluP.alu 5 a b != 0) = true ∧ decide (AluP.alu 5 a b < 0) = decide (a < 0) := by
  by_cases h : AluP.alu 5 a b = 0
  · exact .inl (by simpa using h)
  · refine .inr ⟨by simpa using h, ?_⟩
    rw [decide_eq_decide]
    by_cases hz : b = 0
    · subst hz; rw [AluP.alu_rem]; simp
    · exact AluP.law_sign a b hz h
theorem way3 (a b : Int) : (a != b) = false ∧ a = b ∨ (a != b) = true ∧ AluP.alu 9 a b = 1 ∧ AluP.alu 9 b a = 0 ∨ (a != b) = true ∧ AluP.alu 9 a b = 0 ∧ AluP.alu 9 b a = 1 := by
  by_cases h : a = b
  · exact .inl ⟨by simpa using h, h⟩
  · have h' : (a != b) = true := by simpa using h
    rw [AluP.alu_slt, AluP.alu_slt]
    by_cases hl : a < b
    · exact .inr (.inl ⟨h', by rw [if_pos hl], by rw [if_neg (by omega)]⟩)
    · exact .inr (.inr ⟨h', by rw [if_neg hl], by rw [if_pos (by omega)]⟩)
attribute [local irreducible] AluP.alu
theorem law (a b n : Int) (w : World) (ha : AluP.I64 a) (hb : AluP.I64 b) :
    Calls Try.prog 6 #[.int .i64 a, .int .i64 b, .int .i64 n] w fun e w' => e = .returned (.bool true) ∧ Grown w w' := by
  have k1 := op_closed1
  have k2 := op_closed2
  have e1 := Lib.hid (AluP.law_back a b ha)
  have hp := Lib.hid (pk_in n 64 (by omega))
  have K1 := Lib.hid (pick_any n 64 (by omega))
  generalize pk n 64 = k at *
  have e2 := Lib.hid (AluP.law_srl a k)
  have e3 := Lib.hid (AluP.law_sra a k)
  have e4 : Hid (decide (AluP.alu 13 a k < 0) = decide (a < 0)) := Lib.hid (by rw [decide_eq_decide]; exact AluP.law_sra_sign a k)
  have e5 := Lib.hid (AluP.law_and_or a b)
  have e6 := Lib.hid (AluP.law_or_and a b)
  have e7 := Lib.hid (AluP.law_xor a b ha)
  have hz := Lib.hid (way1 a b ha)
  have hr := Lib.hid (way2 a b)
  have hs := Lib.hid (way3 a b)
  clear ha hb
  go_enter Try.func6, Try.ntmps6
  go_upto_region 5 with (first | (go_at_call 11; refine (AluP.alu_any _ _ _ _).mono ?_; rintro e _ ⟨rfl, rfl⟩) | (go_at_call 10; refine (K1.out _).mono ?_; rintro e _ ⟨rfl, rfl⟩))
  go_cut [8, 9, 63] (fun s8 s9 s wx => s8 = .int .i64 (AluP.alu 4 a b) ∧ s9 = .int .i64 (AluP.alu 5 a b) ∧ s = .bool false ∧ wx = w)
  case first =>
    rcases hz.out with ⟨z1, z2, z3⟩ | rfl
    · rcases hr.out with r1 | ⟨r1, r2⟩
      all_goals
        go_wp2_with (first | (go_at_call 11; refine (AluP.alu_any _ _ _ _).mono ?_; rintro e _ ⟨rfl, rfl⟩) | (go_at_call 10; refine (K1.out _).mono ?_; rintro e _ ⟨rfl, rfl⟩))
        go_meet
        case rel => exact ⟨rfl, rfl, rfl, rfl⟩
    · have z4 : AluP.alu 4 a 0 = -1 := by rw [AluP.alu_div]; simp
      have z5 : AluP.alu 5 a 0 = a := by rw [AluP.alu_rem]; simp
      have hr' := hr.out
      rw [z5] at hr'
      rcases hr' with r1 | ⟨r1, r2⟩
      all_goals
        go_wp2_with (first | (go_at_call 11; refine (AluP.alu_any _ _ _ _).mono ?_; rintro e _ ⟨rfl, rfl⟩) | (go_at_call 10; refine (K1.out _).mono ?_; rintro e _ ⟨rfl, rfl⟩))
        go_meet
        case rel => exact ⟨by rw [z4], by rw [z5], rfl, rfl⟩
  case rest =>
    obtain ⟨rfl, rfl, rfl, rfl⟩ := hcut
    go_upto_region 7 with (first | (go_at_call 11; refine (AluP.alu_any _ _ _ _).mono ?_; rintro e _ ⟨rfl, rfl⟩) | (go_at_call 10; refine (K1.out _).mono ?_; rintro e _ ⟨rfl, rfl⟩))
    go_cut [96] (fun s w' => s = .bool false ∧ w' = wc)
    case first =>
      have e1' := e1.out
      have e8 : AluP.alu 9 a a = 0 := by rw [AluP.alu_slt]; simp
      rcases hs.out with ⟨s1, rfl⟩ | ⟨s1, s2, s3⟩ | ⟨s1, s2, s3⟩
      all_goals
        go_wp2_with (first | (go_at_call 11; refine (AluP.alu_any _ _ _ _).mono ?_; rintro e _ ⟨rfl, rfl⟩) | (go_at_call 10; refine (K1.out _).mono ?_; rintro e _ ⟨rfl, rfl⟩))
        go_meet
        case rel => exact ⟨rfl, rfl⟩
    case rest =>
      obtain ⟨rfl, rfl⟩ := hcut
      have hp' := hp.out
      have e2' := e2.out
      have e3' := e3.out
      have e4' := e4.out
      go_upto_region 13 with (first | (go_at_call 11; refine (AluP.alu_any _ _ _ _).mono ?_; rintro e _ ⟨rfl, rfl⟩) | (go_at_call 10; refine (K1.out _).mono ?_; rintro e _ ⟨rfl, rfl⟩))
      clear e2' e3' e4'
      have e5' := e5.out
      have e6' := e6.out
      have e7' := e7.out
      go_wp2_with (first | (go_at_call 11; refine (AluP.alu_any _ _ _ _).mono ?_; rintro e _ ⟨rfl, rfl⟩) | (go_at_call 10; refine (K1.out _).mono ?_; rintro e _ ⟨rfl, rfl⟩))
      go_ret
      exact ⟨rfl, Grown.refl _⟩
/-! ### STEP 1: THE WALK: the Go text returns true. 'Grown w w'': the world has at most new blocks (Derived/RowKit3.lean). Part the cases AHEAD of 'go_enter' where a test parts the walk; take each callee by a contract of your own. -/
theorem walk (a0 : Int) (a1 : Int) (a2 : Int) (w0 : (Lit.int .i64 a0).wf = true) (w1 : (Lit.int .i64 a1).wf = true) (w2 : (Lit.int .i64 a2).wf = true) (w : World) :
    Calls Try.prog 6 #[.int .i64 a0, .int .i64 a1, .int .i64 a2] w fun e w' => e = .returned (.bool true) ∧ Grown w w' := by
  have ha := AluP.wf_i64 w0
  have hb := AluP.wf_i64 w1
  exact law a0 a1 a2 w ha hb

/-! ### THE ROW's STEP: WRITTEN OUT: LEAVE IT -/
set_option maxRecDepth 100000 in
theorem lifted (os : Os) (started : os.Started) (H : Type) (enc : TypeId × Value → H) :
    ReturnsInHanded {} Try.checked os 6 .any (Rows.aluSumsSpec.pre6 enc Try.prog Try.f6 Rows.aluSumsRow.domain false) (Rows.aluSumsSpec.post enc Try.prog Try.f6 false true false false) := by
  refine returnsInHanded_of_change (C := Try.checked) own started (by kernel_rfl) Try.func6
    (ChangeSpec.witness6 (enc := enc) (C := Try.checked) false ⟨#[], #[.int .i64 0, .int .i64 0, .int .i64 0], []⟩ 8 (by kernel_rfl) (by kernel_rfl) (by kernel_rfl) (by kernel_rfl)) ?_
  intro W base args ds gs before hval0 hW hcnd _
  have hval : ∀ (j : Nat) t v, Try.f6.params[j]? = some t → args[j]? = some v → Value.okWide Try.prog W .any base t v := hval0
  have hW' := hW
  obtain ⟨p, q, hA0, hV, rfl, hfz, hnd⟩ := hW
  have hA : DataW.TrodAll enc Try.prog W 0 (fun _ => true) true Try.f6.params.toList args.toList ds p := hA0
  rw [Try.params6] at hA hval
  obtain ⟨v0, vs0, d0, ds0, p0, q0, hargs, rfl, rfl, h0, r0⟩ := trodAll_cons hA
  obtain ⟨v1, vs1, d1, ds1, p1, q1, rfl, rfl, rfl, h1, r1⟩ := trodAll_cons r0
  obtain ⟨v2, vs2, d2, ds2, p2, q2, rfl, rfl, rfl, h2, r2⟩ := trodAll_cons r1
  obtain ⟨rfl, rfl, rfl⟩ := trodAll_nil r2
  obtain rfl : args = #[v0, v1, v2] := by cases args; simp_all
  obtain ⟨rfl, rfl⟩ := trodVars_none hV
  obtain ⟨a0, rfl, rfl, rfl, w0⟩ := open_int Try.underlying2 (hval 0 2 v0 rfl rfl) h0
  obtain ⟨a1, rfl, rfl, rfl, w1⟩ := open_int Try.underlying2 (hval 1 2 v1 rfl rfl) h1
  obtain ⟨a2, rfl, rfl, rfl, w2⟩ := open_int Try.underlying3 (hval 2 3 v2 rfl rfl) h2
  clear hA0 hval0
  simp only [List.append_nil] at hW'
  refine (walk a0 a1 a2 w0 w1 w2 W).mono fun e W' ⟨he, hg⟩ => ?_
  subst he
  exact ⟨_, rfl, post_of_same (pa := []) (pv := []) hW' (fun _ _ _ => (trodAll_cons_mk (shut_bool Try.underlying4 _) trodAll_mk0)) (fun sp _ => (trodAll_cons_mk (shut_int Try.underlying2 w0) (trodAll_cons_mk (shut_int Try.underlying2 w1) (trodAll_cons_mk (shut_int Try.underlying3 w2) trodAll_mk0)))) (fun _ _ => rfl) rfl
    (hg.frame _) hg.2.1 (ok_one (by kernel_rfl) rfl (okWide_bool_mk Try.underlying4 _))⟩

theorem over : Rows.aluSumsRow.holds Try.pinned (OpenSpec.ofChange Rows.aluSumsSpec) :=
  OpenClaim.holds_of_wide 6 Try.f6 rfl rfl rfl rfl rfl rfl rfl ⟨rfl, rfl, rfl, rfl, rfl⟩ rfl rfl rfl rfl rfl (by kernel_rfl) Try.func6 (by kernel_rfl)
    (of_decide_eq_true (by kernel_rfl)) (by unfold Func.isWrapper; first | (rw [if_pos (by decide +kernel)]; kernel_rfl) | (rw [if_neg (by decide +kernel)]; exact ⟨rfl, rfl⟩))
    (fun os started H enc _ => lifted os started H enc)

/-- The statement. -/
theorem proved : Rows.AluSumsSaid :=
  over
#print axioms proved
end Go.Proofs.Ytclmnjbillkieaa.aluSums

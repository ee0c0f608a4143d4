/- Proved: for any functions of steps, any given numbers, fuel, mark and two numbers the law MidRuns returns true. Conditions: the two tables of the steps lie as the program lays them, which the card ties to the program's text. -/
import Derived.Test.YtoajcbfejplfbaaDoorRows
import Derived.Test.YtoajcbfejplfbaaDoorTie
import Derived.Test.YtoajcbfejplfbaaDoorCards
import Derived.Test.YtoajcbfejplfbaaDoorNums
import Derived.Test.YtoajcbfejplfbaaDoorRunsLaid
import Derived.Test.YtoajcbfejplfbaaDoorRunsWalk
import Derived.Test.YtoajcbfejplfbaaDoorMidOpen
import Derived.WalkKit
import Derived.ProofKit
import Derived.LaidMore
import Derived.OpenShut
import Derived.Stop.Joined
import Derived.SevenTiedAt
namespace Go.Proofs.YtoajcbfejplfbaaDoor.midRuns
open Go.ChangeShapes Go.WideShapes Go.ChangeAt Go.RowKit
set_option linter.unusedVariables false
set_option linter.unusedSimpArgs false

theorem own : ownKnob Tryd.prog.godebug = none := by kernel_rfl
set_option maxRecDepth 100000 in
theorem lifted (os : Os) (started : os.Started) (H : Type) (enc : TypeId × Value → H) :
    ReturnsInHanded {} Tryd.checked os 3 .any (fun w args => (Rows.midRunsSpec.pre enc Tryd.prog Tryd.f3 [] false w args ∧ laidMetH Tryd.prog MidP.two w) ∧ sizedMet enc Tryd.prog Tryd.f3 (OpenSpec.ofChange Rows.midRunsSpec) false w args)
      (Rows.midRunsSpec.post enc Tryd.prog Tryd.f3 false true false false) := by
  refine Wo.of_change_and_shaped (C := Tryd.checked) (X := fun w _ => laidMetH Tryd.prog MidP.two w) (fun _ _ _ hh h => h.of_heap hh) own started (by kernel_rfl) Tryd.func3
    (ChangeSpec.witness_shaped (enc := enc) (C := Tryd.checked) (os := os) (X := fun w _ => laidMetH Tryd.prog MidP.two w) false (World.doorLaid Tryd.prog 300 os) #[.slice none 0 0, .slice none 0 0, .int .i64 0, .string ⟨#[]⟩, .int .i64 0, .int .i64 0] 8 rfl (World.shaped_of_RefB (by kernel_rfl) (by kernel_rfl)) (by kernel_rfl) (by kernel_rfl) (by kernel_rfl) (MidP.two_met os _ _)) ?_
  intro W base args ds gs before hval0 hW hSh hL
  have hval : ∀ (j : Nat) t v, Tryd.f3.params[j]? = some t → args[j]? = some v → Value.okWide Tryd.prog W .any base t v := hval0
  have hW' := hW
  obtain ⟨p, q, hA0, hV, rfl, hfz, hnd⟩ := hW
  have hA : DataW.TrodAll enc Tryd.prog W 0 (fun _ => true) true Tryd.f3.params.toList args.toList ds p := hA0
  rw [Tryd.params3] at hA hval
  obtain ⟨v0, vs0, d0, ds0, p0, q0, hargs, rfl, rfl, h0, r0⟩ := trodAll_cons hA
  obtain ⟨v1, vs1, d1, ds1, p1, q1, rfl, rfl, rfl, h1, r1⟩ := trodAll_cons r0
  obtain ⟨v2, vs2, d2, ds2, p2, q2, rfl, rfl, rfl, h2, r2⟩ := trodAll_cons r1
  obtain ⟨v3, vs3, d3, ds3, p3, q3, rfl, rfl, rfl, h3, r3⟩ := trodAll_cons r2
  obtain ⟨v4, vs4, d4, ds4, p4, q4, rfl, rfl, rfl, h4, r4⟩ := trodAll_cons r3
  obtain ⟨v5, vs5, d5, ds5, p5, q5, rfl, rfl, rfl, h5, r5⟩ := trodAll_cons r4
  obtain ⟨rfl, rfl, rfl⟩ := trodAll_nil r5
  obtain rfl : args = #[v0, v1, v2, v3, v4, v5] := by cases args; simp_all
  obtain ⟨rfl, rfl⟩ := trodVars_none hV
  obtain ⟨l0, hf0, hk0⟩ := MidP.fms_open (hval 0 22 v0 rfl rfl) h0
  obtain ⟨l1, hn1⟩ := Wo.nums_open Tryd.underlying23 Tryd.underlying2 (by kernel_rfl) (hval 1 23 v1 rfl rfl) h1
  obtain ⟨a2, rfl, rfl, rfl, w2⟩ := open_int Tryd.underlying3 (hval 2 3 v2 rfl rfl) h2
  obtain ⟨s3, rfl, rfl, rfl, w3⟩ := ChangeMaps.open_string Tryd.underlying9 (hval 3 9 v3 rfl rfl) h3
  obtain ⟨a4, rfl, rfl, rfl, w4⟩ := open_int Tryd.underlying2 (hval 4 2 v4 rfl rfl) h4
  obtain ⟨a5, rfl, rfl, rfl, w5⟩ := open_int Tryd.underlying2 (hval 5 2 v5 rfl rfl) h5
  clear hA0 hval0
  have hwalk : Calls Tryd.prog 3 #[v0, v1, .int .i64 a2, .string s3, .int .i64 a4, .int .i64 a5] W fun e W' => e = .returned (.bool true) ∧ Wo.Mods Wo.None W W' := by
    exact MidP.R.runs_walk v0 v1 l0 l1 a2 s3.data.toList a4 a5 W hf0 hk0 (MidP.nums_in hn1).1 (MidP.nums_in hn1).2 (MidP.nums_64 hn1) (MidP.i64_wf w2) (MidP.i64_wf w4) (MidP.i64_wf w5) (MidP.two_laid hL).1 (MidP.two_laid hL).2 hSh
  refine hwalk.mono fun e W' ⟨he, hg⟩ => ?_
  subst he
  have hlt : ∀ p ∈ p0 ++ p1, p.block < W.heap.size := fun p hp => hW'.lt p (by simpa using hp)
  exact ⟨_, rfl, Wo.post_of_mods (pa := p0 ++ (p1 ++ ([] ++ ([] ++ ([] ++ ([] ++ [])))))) (pv := []) hW' (fun _ _ _ => (trodAll_cons_mk (shut_bool Tryd.underlying4 _) trodAll_mk0)) (fun sp hsp => (trodAll_cons_mk (WideElems.Trod_stays Wo.laid_out (by kernel_rfl) (of_decide_eq_true (by kernel_rfl)) h0 (fun p hp => hg.same (hlt p (by simp [hp]))) (fun p hp => hsp p (by simp [hp]))) (trodAll_cons_mk (WideElems.Trod_stays Wo.laid_out (by kernel_rfl) (of_decide_eq_true (by kernel_rfl)) h1 (fun p hp => hg.same (hlt p (by simp [hp]))) (fun p hp => hsp p (by simp [hp]))) (trodAll_cons_mk (shut_int Tryd.underlying3 w2) (trodAll_cons_mk (ChangeMaps.shut_string Tryd.underlying9 w3) (trodAll_cons_mk (shut_int Tryd.underlying2 w4) (trodAll_cons_mk (shut_int Tryd.underlying2 w5) trodAll_mk0))))))) (fun _ _ => rfl) (by simp)
    hg (ok_one (by kernel_rfl) rfl (okWide_bool_mk Tryd.underlying4 _))⟩

theorem row_holds : Rows.MidRunsSaid :=
  OpenClaim.holds_of_wide 3 Tryd.f3 rfl rfl rfl rfl rfl rfl rfl ⟨rfl, rfl, rfl, rfl, rfl⟩ rfl rfl rfl rfl rfl (by kernel_rfl) Tryd.func3 (by kernel_rfl)
    (of_decide_eq_true (by kernel_rfl)) (by unfold Func.isWrapper; first | (rw [if_pos (by decide +kernel)]; kernel_rfl) | (rw [if_neg (by decide +kernel)]; exact ⟨rfl, rfl⟩))
    (fun os started H enc _ => lifted os started H enc)

/-- The statement. -/
theorem proved : Rows.MidRunsCardSaid :=
  Claim7.holds_tied_plain_at .later [] [.widerDeep, .data] true (true, "208074a8fd95b9bb8ad81e9727fe551a2a8c0bab750855d688ddcc4f09028df6") true
    row_holds (fun _ h => by cases h) (by kernel_rfl) (fun _ h => by cases h) midRuns_row_tie rfl ⟨rfl, rfl⟩ (by kernel_rfl) rfl
    (fun f fn hf hfn => by
      obtain rfl : f = 3 := Option.some.inj ((show Tryd.prog.funcNamed "bloomery/bloomerylaw.MidRuns" = some 3 by kernel_rfl).symm.trans hf) |>.symm
      obtain rfl : fn = Tryd.f3 := (Option.some.inj (Tryd.func3.symm.trans hfn)).symm
      exact ⟨by kernel_rfl, fun j t ht => by
        rw [Tryd.params3] at ht
        have hm : t ∈ [22, 23, 3, 9, 2, 2] := by simpa using Array.mem_of_getElem? ht
        have hall : ([22, 23, 3, 9, 2, 2].all fun u => !Tryd.prog.wantsStandIn u) = true := by kernel_rfl
        exact (show Tryd.prog.wantsStandIn t = false by simpa using List.all_eq_true.1 hall t hm)⟩)
    (by kernel_rfl)
#print axioms proved
end Go.Proofs.YtoajcbfejplfbaaDoor.midRuns

/- Proved: for any text, any numbers given and any two numbers a and b the law RunFuel returns true: with more fuel a program tells what it told, and perhaps more; it ends just so if it ended otherwise than for want of fuel; and what it does not read of what is given changes nothing. Conditions: the seven variables that the row lists (two tables of digits, powers of ten, ErrRange, ErrSyntax, marks, levels) lie as the program lays them, which the card ties to the program's text. -/
import Derived.Test.YtdgedlhefjmcpaaDoorRows
import Derived.Test.YtdgedlhefjmcpaaDoorTie
import Derived.Test.YtdgedlhefjmcpaaDoorCards
import Derived.Test.YtdgedlhefjmcpaaDoorNums
import Derived.Test.YtdgedlhefjmcpaaDoorTreeSev
import Derived.Test.YtdgedlhefjmcpaaDoorFuelWalk
import Derived.WalkKit
import Derived.ProofKit
import Derived.LaidMore
import Derived.OpenShut
import Derived.Stop.Joined
import Derived.SevenTiedAt
namespace Go.Proofs.YtdgedlhefjmcpaaDoor.runFuel
open Go.ChangeShapes Go.WideShapes Go.ChangeAt Go.RowKit
set_option linter.unusedVariables false
set_option linter.unusedSimpArgs false

theorem own : ownKnob Tryd.prog.godebug = none := by kernel_rfl
set_option maxRecDepth 100000 in
theorem lifted (os : Os) (started : os.Started) (H : Type) (enc : TypeId × Value → H) :
    ReturnsInHanded {} Tryd.checked os 6 .any (fun w args => (Rows.runFuelSpec.pre enc Tryd.prog Tryd.f6 [] false w args ∧ laidMetH Tryd.prog TreeP.seven w) ∧ sizedMet enc Tryd.prog Tryd.f6 (OpenSpec.ofChange Rows.runFuelSpec) false w args)
      (Rows.runFuelSpec.post enc Tryd.prog Tryd.f6 false true false false) := by
  refine returnsInHanded_of_change_and (C := Tryd.checked) (X := fun w _ => laidMetH Tryd.prog TreeP.seven w) (fun _ _ _ hh h => h.of_heap hh) own started (by kernel_rfl) Tryd.func6
    (ChangeSpec.witness_shaped (enc := enc) (C := Tryd.checked) (os := os) (X := fun w _ => laidMetH Tryd.prog TreeP.seven w) false (World.doorLaid Tryd.prog 300 os) #[.string ⟨#[]⟩, .slice none 0 0, .int .i64 0, .int .i64 0] 8 rfl (World.shaped_of_RefB (by kernel_rfl) (by kernel_rfl)) (by kernel_rfl) (by kernel_rfl) (by kernel_rfl) (TreeP.seven_met os _ _)) ?_
  intro W base args ds gs before hval0 hW _ _ hL _
  have hval : ∀ (j : Nat) t v, Tryd.f6.params[j]? = some t → args[j]? = some v → Value.okWide Tryd.prog W .any base t v := hval0
  have hW' := hW
  obtain ⟨p, q, hA0, hV, rfl, hfz, hnd⟩ := hW
  have hA : DataW.TrodAll enc Tryd.prog W 0 (fun _ => true) true Tryd.f6.params.toList args.toList ds p := hA0
  rw [Tryd.params6] at hA hval
  obtain ⟨v0, vs0, d0, ds0, p0, q0, hargs, rfl, rfl, h0, r0⟩ := trodAll_cons hA
  obtain ⟨v1, vs1, d1, ds1, p1, q1, rfl, rfl, rfl, h1, r1⟩ := trodAll_cons r0
  obtain ⟨v2, vs2, d2, ds2, p2, q2, rfl, rfl, rfl, h2, r2⟩ := trodAll_cons r1
  obtain ⟨v3, vs3, d3, ds3, p3, q3, rfl, rfl, rfl, h3, r3⟩ := trodAll_cons r2
  obtain ⟨rfl, rfl, rfl⟩ := trodAll_nil r3
  obtain rfl : args = #[v0, v1, v2, v3] := by cases args; simp_all
  obtain ⟨rfl, rfl⟩ := trodVars_none hV
  obtain ⟨s0, rfl, rfl, rfl, w0⟩ := ChangeMaps.open_string Tryd.underlying9 (hval 0 9 v0 rfl rfl) h0
  obtain ⟨l1, hn1⟩ := Wo.nums_open Tryd.underlying37 Tryd.underlying2 (by kernel_rfl) (hval 1 37 v1 rfl rfl) h1
  obtain ⟨a2, rfl, rfl, rfl, w2⟩ := open_int Tryd.underlying3 (hval 2 3 v2 rfl rfl) h2
  obtain ⟨a3, rfl, rfl, rfl, w3⟩ := open_int Tryd.underlying3 (hval 3 3 v3 rfl rfl) h3
  clear hA0 hval0
  have hwalk : Calls Tryd.prog 6 #[.string s0, v1, .int .i64 a2, .int .i64 a3] W fun e W' => e = .returned (.bool true) ∧ Wo.Mods Wo.None W W' := by
    exact TreeP.runFuel_walk s0.data.toList v1 l1 a2 a3 W (TreeP.all_of_laid hL) (TreeP.str_fits w0) (TreeP.nums_in hn1).1 (TreeP.nums_in hn1).2
  refine hwalk.mono fun e W' ⟨he, hg⟩ => ?_
  subst he
  have hlt : ∀ p ∈ p1, p.block < W.heap.size := fun p hp => hW'.lt p (by simpa using hp)
  exact ⟨_, rfl, Wo.post_of_mods (pa := [] ++ (p1 ++ ([] ++ ([] ++ [])))) (pv := []) hW' (fun _ _ _ => (trodAll_cons_mk (shut_bool Tryd.underlying4 _) trodAll_mk0)) (fun sp hsp => (trodAll_cons_mk (ChangeMaps.shut_string Tryd.underlying9 w0) (trodAll_cons_mk (WideElems.Trod_stays Wo.laid_out (by kernel_rfl) (of_decide_eq_true (by kernel_rfl)) h1 (fun p hp => hg.same (hlt p (by simp [hp]))) (fun p hp => hsp p (by simp [hp]))) (trodAll_cons_mk (shut_int Tryd.underlying3 w2) (trodAll_cons_mk (shut_int Tryd.underlying3 w3) trodAll_mk0))))) (fun _ _ => rfl) (by simp)
    hg (ok_one (by kernel_rfl) rfl (okWide_bool_mk Tryd.underlying4 _))⟩

theorem row_holds : Rows.RunFuelSaid :=
  OpenClaim.holds_of_wide 6 Tryd.f6 rfl rfl rfl rfl rfl rfl rfl ⟨rfl, rfl, rfl, rfl, rfl⟩ rfl rfl rfl rfl rfl (by kernel_rfl) Tryd.func6 (by kernel_rfl)
    (of_decide_eq_true (by kernel_rfl)) (by unfold Func.isWrapper; first | (rw [if_pos (by decide +kernel)]; kernel_rfl) | (rw [if_neg (by decide +kernel)]; exact ⟨rfl, rfl⟩))
    (fun os started H enc _ => lifted os started H enc)

/-- The statement. -/
theorem proved : Rows.RunFuelCardSaid :=
  Claim7.holds_tied_plain_at .later [] [.data, .data, .data, .sentinel, .sentinel, .data, .widerDeep] true (true, "007c2b1a731f9513262b7cd07e18de5c5a76cd7b3a32137d8f66f9673d5fd09f") true
    row_holds (fun _ h => by cases h) (by kernel_rfl) (fun _ h => by cases h) runFuel_row_tie rfl ⟨rfl, rfl⟩ (by kernel_rfl) rfl
    (fun f fn hf hfn => by
      obtain rfl : f = 6 := Option.some.inj ((show Tryd.prog.funcNamed "bloomery/bloomerykeep.RunFuel" = some 6 by kernel_rfl).symm.trans hf) |>.symm
      obtain rfl : fn = Tryd.f6 := (Option.some.inj (Tryd.func6.symm.trans hfn)).symm
      exact ⟨by kernel_rfl, fun j t ht => by
        rw [Tryd.params6] at ht
        have hm : t ∈ [9, 37, 3, 3] := by simpa using Array.mem_of_getElem? ht
        have hall : ([9, 37, 3, 3].all fun u => !Tryd.prog.wantsStandIn u) = true := by kernel_rfl
        exact (show Tryd.prog.wantsStandIn t = false by simpa using List.all_eq_true.1 hall t hm)⟩)
    (by kernel_rfl)
#print axioms proved
end Go.Proofs.YtdgedlhefjmcpaaDoor.runFuel

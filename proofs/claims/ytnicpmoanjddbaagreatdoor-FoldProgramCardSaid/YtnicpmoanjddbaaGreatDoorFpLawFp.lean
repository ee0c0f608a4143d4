/- Proved: for any program text and any numbers given the law FoldProgram returns true: a program whose steps are made fewer ends as it did. Conditions: the package's tables lie as the program lays them, which the card ties to the program's text. -/
import Derived.Test.YtnicpmoanjddbaaGreatDoorTie
import Derived.Test.YtnicpmoanjddbaaGreatDoorCards
import Derived.Test.YtnicpmoanjddbaaGreatDoorFp20
import Derived.SevenTiedAt
namespace Go.Proofs.YtnicpmoanjddbaaGreatDoor.foldProgram
open Go.ChangeShapes Go.WideShapes Go.ChangeAt Go.RowKit
set_option linter.unusedVariables false
set_option linter.unusedSimpArgs false

theorem own : ownKnob Tryz.prog.godebug = none := by kernel_rfl
set_option maxRecDepth 100000 in
theorem lifted (os : Os) (started : os.Started) (H : Type) (enc : TypeId × Value → H) :
    ReturnsInHanded {} Tryz.checked os 5 .any (fun w args => (Rows.foldProgramSpec.pre enc Tryz.prog Tryz.f5 [] false w args ∧ laidMetH Tryz.prog aW.nine w) ∧ sizedMet enc Tryz.prog Tryz.f5 (OpenSpec.ofChange Rows.foldProgramSpec) false w args)
      (Rows.foldProgramSpec.post enc Tryz.prog Tryz.f5 false true false false) := by
  refine returnsInHanded_of_change_and (C := Tryz.checked) (X := fun w _ => laidMetH Tryz.prog aW.nine w) (fun _ _ _ hh h => h.of_heap hh) own started (by kernel_rfl) Tryz.func5
    (ChangeSpec.witness_shaped (enc := enc) (C := Tryz.checked) (os := os) (X := fun w _ => laidMetH Tryz.prog aW.nine w) false (World.doorLaid Tryz.prog 300 os) #[.string ⟨#[]⟩, .slice none 0 0] 8 rfl (World.shaped_of_RefB (by kernel_rfl) (by kernel_rfl)) (by kernel_rfl) (by kernel_rfl) (by kernel_rfl) (aW.agV os _ _)) ?_
  intro W base args ds gs before UY hW _ _ hL _
  have hval : ∀ (j : Nat) t v, Tryz.f5.params[j]? = some t → args[j]? = some v → Value.okWide Tryz.prog W .any base t v := UY
  have Tt := hW
  obtain ⟨p, q, yr, hV, rfl, Ni, Ab⟩ := hW
  have hA : DataW.TrodAll enc Tryz.prog W 0 (fun _ => true) true Tryz.f5.params.toList args.toList ds p := yr
  rw [Tryz.params5] at hA hval
  obtain ⟨v0, anj, d0, alg, p0, q0, cC, rfl, rfl, h0, r0⟩ := trodAll_cons hA
  obtain ⟨v1, ank, d1, alh, p1, q1, rfl, rfl, rfl, h1, r1⟩ := trodAll_cons r0
  obtain ⟨rfl, rfl, rfl⟩ := trodAll_nil r1
  obtain rfl : args = #[v0, v1] := by cases args; simp_all
  obtain ⟨rfl, rfl⟩ := trodVars_none hV
  obtain ⟨s0, rfl, rfl, rfl, w0⟩ := ChangeMaps.open_string Tryz.underlying9 (hval 0 9 v0 rfl rfl) h0
  obtain ⟨l1, la⟩ := bB.ag2 Tryz.underlying23 Tryz.underlying2 (by kernel_rfl) (hval 1 23 v1 rfl rfl) h1
  clear yr UY
  have aeC : Calls Tryz.prog 5 #[.string s0, v1] W fun e W' => e = .returned (.bool true) ∧ bB.ag bB.ai W W' := by
    exact aW.acp s0.data.toList v1 l1 W (aB.ajX w0) (aW.V4 la).1 (aW.V4 la).2 (aW.ag1 la) (aW.O6 hL).1 (aW.O6 hL).2.1 (aW.O6 hL).2.2
  refine aeC.mono fun e W' ⟨he, hg⟩ => ?_
  subst he
  have hlt : ∀ p ∈ p1, p.block < W.heap.size := fun p hp => Tt.lt p (by simpa using hp)
  exact ⟨_, rfl, bB.ahz (pa := [] ++ (p1 ++ [])) (pv := []) Tt (fun _ _ _ => (trodAll_cons_mk (shut_bool Tryz.underlying4 _) trodAll_mk0)) (fun sp hsp => (trodAll_cons_mk (ChangeMaps.shut_string Tryz.underlying9 w0) (trodAll_cons_mk (WideElems.Trod_stays bB.afr (by kernel_rfl) (of_decide_eq_true (by kernel_rfl)) h1 (fun p hp => hg.same (hlt p (by simp [hp]))) (fun p hp => hsp p (by simp [hp]))) trodAll_mk0))) (fun _ _ => rfl) (by simp)
    hg (ok_one (by kernel_rfl) rfl (okWide_bool_mk Tryz.underlying4 _))⟩

theorem aie : Rows.FoldProgramSaid :=
  OpenClaim.holds_of_wide 5 Tryz.f5 rfl rfl rfl rfl rfl rfl rfl ⟨rfl, rfl, rfl, rfl, rfl⟩ rfl rfl rfl rfl rfl (by kernel_rfl) Tryz.func5 (by kernel_rfl)
    (of_decide_eq_true (by kernel_rfl)) (by unfold Func.isWrapper; first | (rw [if_pos (by decide +kernel)]; kernel_rfl) | (rw [if_neg (by decide +kernel)]; exact ⟨rfl, rfl⟩))
    (fun os started H enc _ => lifted os started H enc)

/-- The statement. -/
theorem proved : Rows.FoldProgramCardSaid :=
  Claim7.holds_tied_plain_at .later [] [.data, .data, .data, .widerDeep, .data, .sentinel, .sentinel, .data, .widerDeep] true (true, "21dc633191040ed592078085f09a2bebd18823b41098bf2ebe6165cb7fdd9395") true
    aie (fun _ h => by cases h) (by kernel_rfl) (fun _ h => by cases h) foldProgram_row_tie rfl ⟨rfl, rfl⟩ (by kernel_rfl) rfl
    (fun f fn hf hfn => by
      obtain rfl : f = 5 := Option.some.inj ((show Tryz.prog.funcNamed "bloomery/bloomerykeep.FoldProgram" = some 5 by kernel_rfl).symm.trans hf) |>.symm
      obtain rfl : fn = Tryz.f5 := (Option.some.inj (Tryz.func5.symm.trans hfn)).symm
      exact ⟨by kernel_rfl, fun j t ht => by
        rw [Tryz.params5] at ht
        have hm : t ∈ [9, 23] := by simpa using Array.mem_of_getElem? ht
        have hall : ([9, 23].all fun u => !Tryz.prog.wantsStandIn u) = true := by kernel_rfl
        exact (show Tryz.prog.wantsStandIn t = false by simpa using List.all_eq_true.1 hall t hm)⟩)
    (by kernel_rfl)
#print axioms proved
end Go.Proofs.YtnicpmoanjddbaaGreatDoor.foldProgram

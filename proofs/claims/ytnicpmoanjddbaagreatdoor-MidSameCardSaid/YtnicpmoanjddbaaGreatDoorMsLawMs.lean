/- Proved: for any text and any numbers that are given the law MidSame returns true: a program's steps end as the program does; where something is found no steps are made. Conditions: the listed variables lie as the program lays them, which the card ties to the program's text. -/
import Derived.Test.YtnicpmoanjddbaaGreatDoorRows
import Derived.Test.YtnicpmoanjddbaaGreatDoorTie
import Derived.Test.YtnicpmoanjddbaaGreatDoorCards
import Derived.Test.YtnicpmoanjddbaaGreatDoorMs01
import Derived.Test.YtnicpmoanjddbaaGreatDoorMs12
import Derived.Test.YtnicpmoanjddbaaGreatDoorMs37
import Derived.WalkKit
import Derived.ProofKit
import Derived.LaidMore
import Derived.OpenShut
import Derived.Stop.Joined
import Derived.SevenTiedAt
namespace Go.Proofs.YtnicpmoanjddbaaGreatDoor.midSame
open Go.ChangeShapes Go.WideShapes Go.ChangeAt Go.RowKit
set_option linter.unusedVariables false
set_option linter.unusedSimpArgs false

theorem own : ownKnob Tryz.prog.godebug = none := by kernel_rfl
set_option maxRecDepth 100000 in
theorem lifted (os : Os) (started : os.Started) (H : Type) (enc : TypeId × Value → H) :
    ReturnsInHanded {} Tryz.checked os 4 .any (fun w args => (Rows.midSameSpec.pre enc Tryz.prog Tryz.f4 [] false w args ∧ laidMetH Tryz.prog MidP.ten w) ∧ sizedMet enc Tryz.prog Tryz.f4 (OpenSpec.ofChange Rows.midSameSpec) false w args)
      (Rows.midSameSpec.post enc Tryz.prog Tryz.f4 false true false false) := by
  refine returnsInHanded_of_change_and (C := Tryz.checked) (X := fun w _ => laidMetH Tryz.prog MidP.ten w) (fun _ _ _ hh h => h.of_heap hh) own started (by kernel_rfl) Tryz.func4
    (ChangeSpec.witness_shaped (enc := enc) (C := Tryz.checked) (os := os) (X := fun w _ => laidMetH Tryz.prog MidP.ten w) false (World.doorLaid Tryz.prog 300 os) #[.string ⟨#[]⟩, .slice none 0 0] 8 rfl (World.shaped_of_RefB (by kernel_rfl) (by kernel_rfl)) (by kernel_rfl) (by kernel_rfl) (by kernel_rfl) (MidP.ten_met os _ _)) ?_
  intro W base args ds gs before hval0 hW _ _ hL _
  have hval : ∀ (j : Nat) t v, Tryz.f4.params[j]? = some t → args[j]? = some v → Value.okWide Tryz.prog W .any base t v := hval0
  have hW' := hW
  obtain ⟨p, q, hA0, hV, rfl, hfz, hnd⟩ := hW
  have hA : DataW.TrodAll enc Tryz.prog W 0 (fun _ => true) true Tryz.f4.params.toList args.toList ds p := hA0
  rw [Tryz.params4] at hA hval
  obtain ⟨v0, vs0, d0, ds0, p0, q0, hargs, rfl, rfl, h0, r0⟩ := trodAll_cons hA
  obtain ⟨v1, vs1, d1, ds1, p1, q1, rfl, rfl, rfl, h1, r1⟩ := trodAll_cons r0
  obtain ⟨rfl, rfl, rfl⟩ := trodAll_nil r1
  obtain rfl : args = #[v0, v1] := by cases args; simp_all
  obtain ⟨rfl, rfl⟩ := trodVars_none hV
  obtain ⟨s0, rfl, rfl, rfl, w0⟩ := ChangeMaps.open_string Tryz.underlying9 (hval 0 9 v0 rfl rfl) h0
  obtain ⟨l1, hn1⟩ := Wo.nums_open Tryz.underlying23 Tryz.underlying2 (by kernel_rfl) (hval 1 23 v1 rfl rfl) h1
  clear hA0 hval0
  have hwalk : Calls Tryz.prog 4 #[.string s0, v1] W fun e W' => e = .returned (.bool true) ∧ Wo.Mods Wo.None W W' := by
    exact MidP.ms_walk s0.data.toList v1 l1 W (TreeP.str_fits w0) (MidP.nums_in hn1).1 (MidP.nums_in hn1).2 (MidP.ten_laid hL).1 (MidP.ten_laid hL).2.1 (MidP.ten_laid hL).2.2.1 (MidP.ten_laid hL).2.2.2
  refine hwalk.mono fun e W' ⟨he, hg⟩ => ?_
  subst he
  have hlt : ∀ p ∈ p1, p.block < W.heap.size := fun p hp => hW'.lt p (by simpa using hp)
  exact ⟨_, rfl, Wo.post_of_mods (pa := [] ++ (p1 ++ [])) (pv := []) hW' (fun _ _ _ => (trodAll_cons_mk (shut_bool Tryz.underlying4 _) trodAll_mk0)) (fun sp hsp => (trodAll_cons_mk (ChangeMaps.shut_string Tryz.underlying9 w0) (trodAll_cons_mk (WideElems.Trod_stays Wo.laid_out (by kernel_rfl) (of_decide_eq_true (by kernel_rfl)) h1 (fun p hp => hg.same (hlt p (by simp [hp]))) (fun p hp => hsp p (by simp [hp]))) trodAll_mk0))) (fun _ _ => rfl) (by simp)
    hg (ok_one (by kernel_rfl) rfl (okWide_bool_mk Tryz.underlying4 _))⟩

theorem row_holds : Rows.MidSameSaid :=
  OpenClaim.holds_of_wide 4 Tryz.f4 rfl rfl rfl rfl rfl rfl rfl ⟨rfl, rfl, rfl, rfl, rfl⟩ rfl rfl rfl rfl rfl (by kernel_rfl) Tryz.func4 (by kernel_rfl)
    (of_decide_eq_true (by kernel_rfl)) (by unfold Func.isWrapper; first | (rw [if_pos (by decide +kernel)]; kernel_rfl) | (rw [if_neg (by decide +kernel)]; exact ⟨rfl, rfl⟩))
    (fun os started H enc _ => lifted os started H enc)

/-- The statement. -/
theorem proved : Rows.MidSameCardSaid :=
  Claim7.holds_tied_plain_at .later [] [.data, .data, .data, .handle, .widerDeep, .data, .sentinel, .sentinel, .data, .widerDeep] true (true, "21dc633191040ed592078085f09a2bebd18823b41098bf2ebe6165cb7fdd9395") true
    row_holds (fun _ h => by cases h) (by kernel_rfl) (fun _ h => by cases h) midSame_row_tie rfl ⟨rfl, rfl⟩ (by kernel_rfl) rfl
    (fun f fn hf hfn => by
      obtain rfl : f = 4 := Option.some.inj ((show Tryz.prog.funcNamed "bloomery/bloomerykeep.MidSame" = some 4 by kernel_rfl).symm.trans hf) |>.symm
      obtain rfl : fn = Tryz.f4 := (Option.some.inj (Tryz.func4.symm.trans hfn)).symm
      exact ⟨by kernel_rfl, fun j t ht => by
        rw [Tryz.params4] at ht
        have hm : t ∈ [9, 23] := by simpa using Array.mem_of_getElem? ht
        have hall : ([9, 23].all fun u => !Tryz.prog.wantsStandIn u) = true := by kernel_rfl
        exact (show Tryz.prog.wantsStandIn t = false by simpa using List.all_eq_true.1 hall t hm)⟩)
    (by kernel_rfl)
#print axioms proved
end Go.Proofs.YtnicpmoanjddbaaGreatDoor.midSame

/- Proved: for any text, whatever numbers are given and however much fuel there is, the law RunEnds returns true: a program of which nothing is found ends as the document's runner ends it. Conditions: the package's variables that the law reads lie as the program lays them, which the card ties to the program's text; the world has its shape. -/
import Derived.Test.YtdgedlhefjmcpaaGreatDoorRows
import Derived.Test.YtdgedlhefjmcpaaGreatDoorTie
import Derived.Test.YtdgedlhefjmcpaaGreatDoorCards
import Derived.Test.YtdgedlhefjmcpaaGreatDoorEn01
import Derived.Test.YtdgedlhefjmcpaaGreatDoorEn18
import Derived.Test.YtdgedlhefjmcpaaGreatDoorEn39
import Derived.WalkKit
import Derived.ProofKit
import Derived.LaidMore
import Derived.OpenShut
import Derived.Stop.Joined
import Derived.SevenTiedAt
namespace Go.Proofs.YtdgedlhefjmcpaaGreatDoor.runEnds
open Go.ChangeShapes Go.WideShapes Go.ChangeAt Go.RowKit
set_option linter.unusedVariables false
set_option linter.unusedSimpArgs false

theorem own : ownKnob Tryz.prog.godebug = none := by kernel_rfl
set_option maxRecDepth 100000 in
theorem lifted (os : Os) (started : os.Started) (H : Type) (enc : TypeId × Value → H) :
    ReturnsInHanded {} Tryz.checked os 9 .any (fun w args => (Rows.runEndsSpec.pre enc Tryz.prog Tryz.f9 [] false w args ∧ laidMetH Tryz.prog TreeP.eleven w) ∧ sizedMet enc Tryz.prog Tryz.f9 (OpenSpec.ofChange Rows.runEndsSpec) false w args)
      (Rows.runEndsSpec.post enc Tryz.prog Tryz.f9 false true false false) := by
  refine Wo.of_change_and_shaped (C := Tryz.checked) (X := fun w _ => laidMetH Tryz.prog TreeP.eleven w) (fun _ _ _ hh h => h.of_heap hh) own started (by kernel_rfl) Tryz.func9
    (ChangeSpec.witness_shaped (enc := enc) (C := Tryz.checked) (os := os) (X := fun w _ => laidMetH Tryz.prog TreeP.eleven w) false (TreeP.elevenW os) #[.string ⟨#[]⟩, .slice none 0 0, .int .i64 0] 8 (TreeP.elevenW_os os) (World.shaped_of_RefB (by kernel_rfl) (by kernel_rfl)) (by kernel_rfl) (by kernel_rfl) (by kernel_rfl) (TreeP.eleven_met os _ _)) ?_
  intro W base args ds gs before hval0 hW hSh hL
  have hval : ∀ (j : Nat) t v, Tryz.f9.params[j]? = some t → args[j]? = some v → Value.okWide Tryz.prog W .any base t v := hval0
  have hW' := hW
  obtain ⟨p, q, hA0, hV, rfl, hfz, hnd⟩ := hW
  have hA : DataW.TrodAll enc Tryz.prog W 0 (fun _ => true) true Tryz.f9.params.toList args.toList ds p := hA0
  rw [Tryz.params9] at hA hval
  obtain ⟨v0, vs0, d0, ds0, p0, q0, hargs, rfl, rfl, h0, r0⟩ := trodAll_cons hA
  obtain ⟨v1, vs1, d1, ds1, p1, q1, rfl, rfl, rfl, h1, r1⟩ := trodAll_cons r0
  obtain ⟨v2, vs2, d2, ds2, p2, q2, rfl, rfl, rfl, h2, r2⟩ := trodAll_cons r1
  obtain ⟨rfl, rfl, rfl⟩ := trodAll_nil r2
  obtain rfl : args = #[v0, v1, v2] := by cases args; simp_all
  obtain ⟨rfl, rfl⟩ := trodVars_none hV
  obtain ⟨s0, rfl, rfl, rfl, w0⟩ := ChangeMaps.open_string Tryz.underlying9 (hval 0 9 v0 rfl rfl) h0
  obtain ⟨l1, hn1⟩ := Wo.nums_open Tryz.underlying46 Tryz.underlying2 (by kernel_rfl) (hval 1 46 v1 rfl rfl) h1
  obtain ⟨a2, rfl, rfl, rfl, w2⟩ := open_int Tryz.underlying3 (hval 2 3 v2 rfl rfl) h2
  clear hA0 hval0
  have hwalk : Calls Tryz.prog 9 #[.string s0, v1, .int .i64 a2] W fun e W' => e = .returned (.bool true) ∧ Wo.Mods Wo.None W W' := by
    exact TreeP.R.ends_walk s0.data.toList v1 l1 a2 W (TreeP.R.str_fit w0) (TreeP.lies_of hL hSh) (TreeP.eleven_laid hL).1.laid (TreeP.eleven_laid hL).2.1 (TreeP.nums_in hn1).1 (TreeP.nums_in hn1).2 (fun x hx => by obtain ⟨_, _, _, _, _, _, _, _, h, _⟩ := hn1; exact h x hx) (TreeP.R.wf_low w2)
  refine hwalk.mono fun e W' ⟨he, hg⟩ => ?_
  subst he
  have hlt : ∀ p ∈ p1, p.block < W.heap.size := fun p hp => hW'.lt p (by simpa using hp)
  exact ⟨_, rfl, Wo.post_of_mods (pa := [] ++ (p1 ++ ([] ++ []))) (pv := []) hW' (fun _ _ _ => (trodAll_cons_mk (shut_bool Tryz.underlying4 _) trodAll_mk0)) (fun sp hsp => (trodAll_cons_mk (ChangeMaps.shut_string Tryz.underlying9 w0) (trodAll_cons_mk (WideElems.Trod_stays Wo.laid_out (by kernel_rfl) (of_decide_eq_true (by kernel_rfl)) h1 (fun p hp => hg.same (hlt p (by simp [hp]))) (fun p hp => hsp p (by simp [hp]))) (trodAll_cons_mk (shut_int Tryz.underlying3 w2) trodAll_mk0)))) (fun _ _ => rfl) (by simp)
    hg (ok_one (by kernel_rfl) rfl (okWide_bool_mk Tryz.underlying4 _))⟩

theorem row_holds : Rows.RunEndsSaid :=
  OpenClaim.holds_of_wide 9 Tryz.f9 rfl rfl rfl rfl rfl rfl rfl ⟨rfl, rfl, rfl, rfl, rfl⟩ rfl rfl rfl rfl rfl (by kernel_rfl) Tryz.func9 (by kernel_rfl)
    (of_decide_eq_true (by kernel_rfl)) (by unfold Func.isWrapper; first | (rw [if_pos (by decide +kernel)]; kernel_rfl) | (rw [if_neg (by decide +kernel)]; exact ⟨rfl, rfl⟩))
    (fun os started H enc _ => lifted os started H enc)

/-- The statement. -/
theorem proved : Rows.RunEndsCardSaid :=
  Claim7.holds_tied_plain_at .later [] [.data, .data, .data, .data, .handle, .sentinel, .sentinel, .data, .data, .widerDeep, .pinned] true (true, "7fabab29ab24710295d765414ee2729c72a24691011c6ff54f2b927a4864d3c1") true
    row_holds (fun _ h => by cases h) (by kernel_rfl) (fun _ h => by cases h) runEnds_row_tie rfl ⟨rfl, rfl⟩ (by kernel_rfl) rfl
    (fun f fn hf hfn => by
      obtain rfl : f = 9 := Option.some.inj ((show Tryz.prog.funcNamed "bloomery/bloomerylaw.RunEnds" = some 9 by kernel_rfl).symm.trans hf) |>.symm
      obtain rfl : fn = Tryz.f9 := (Option.some.inj (Tryz.func9.symm.trans hfn)).symm
      exact ⟨by kernel_rfl, fun j t ht => by
        rw [Tryz.params9] at ht
        have hm : t ∈ [9, 46, 3] := by simpa using Array.mem_of_getElem? ht
        have hall : ([9, 46, 3].all fun u => !Tryz.prog.wantsStandIn u) = true := by kernel_rfl
        exact (show Tryz.prog.wantsStandIn t = false by simpa using List.all_eq_true.1 hall t hm)⟩)
    (by kernel_rfl)
#print axioms proved
end Go.Proofs.YtdgedlhefjmcpaaGreatDoor.runEnds

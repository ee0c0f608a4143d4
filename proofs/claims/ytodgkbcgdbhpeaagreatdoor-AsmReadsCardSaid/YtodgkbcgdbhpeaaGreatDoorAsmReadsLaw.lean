/- Proved: for any text and any instructions given the law AsmReads returns true: which instructions a text is, or at which line it is none, how an instruction is written and what its word is, is the document's. Conditions: the package's tables lie as the program lays them, which the card ties to the program's text. -/
import Derived.Test.YtodgkbcgdbhpeaaGreatDoorRows
import Derived.Test.YtodgkbcgdbhpeaaGreatDoorTie
import Derived.Test.YtodgkbcgdbhpeaaGreatDoorCards
import Derived.Test.YtodgkbcgdbhpeaaGreatDoorNums
import Derived.Test.YtodgkbcgdbhpeaaGreatDoorAsRk
import Derived.Test.YtodgkbcgdbhpeaaGreatDoorAsRb
import Derived.Test.YtodgkbcgdbhpeaaGreatDoorShaped
import Derived.WalkKit
import Derived.ProofKit
import Derived.LaidMore
import Derived.OpenShut
import Derived.Stop.Joined
import Derived.SevenTiedAt
namespace Go.Proofs.YtodgkbcgdbhpeaaGreatDoor.asmReads
open Go.ChangeShapes Go.WideShapes Go.ChangeAt Go.RowKit
set_option linter.unusedVariables false
set_option linter.unusedSimpArgs false

theorem own : ownKnob Tryz.prog.godebug = none := by kernel_rfl
set_option maxRecDepth 100000 in
theorem lifted (os : Os) (started : os.Started) (H : Type) (enc : TypeId × Value → H) :
    ReturnsInHanded {} Tryz.checked os 5 .any (fun w args => (Rows.asmReadsSpec.pre enc Tryz.prog Tryz.f5 [] false w args ∧ laidMetH Tryz.prog AsmP.elevL w) ∧ sizedMet enc Tryz.prog Tryz.f5 (OpenSpec.ofChange Rows.asmReadsSpec) false w args)
      (Rows.asmReadsSpec.post enc Tryz.prog Tryz.f5 false true false false) := by
  refine Wo.of_change_and_shaped (C := Tryz.checked) (X := fun w _ => laidMetH Tryz.prog AsmP.elevL w) (fun _ _ _ hh h => h.of_heap hh) own started (by kernel_rfl) Tryz.func5
    (ChangeSpec.witness_shaped (enc := enc) (C := Tryz.checked) (os := os) (X := fun w _ => laidMetH Tryz.prog AsmP.elevL w) false (AsmP.nineW os) #[.string ⟨#[]⟩, .slice none 0 0] 8 (AsmP.nineW_os os) (World.shaped_of_RefB (by kernel_rfl) (by kernel_rfl)) (by kernel_rfl) (by kernel_rfl) (by kernel_rfl) (AsmP.elev_met os _ _)) ?_
  intro W base args ds gs before hval0 hW hSh hL
  have hval : ∀ (j : Nat) t v, Tryz.f5.params[j]? = some t → args[j]? = some v → Value.okWide Tryz.prog W .any base t v := hval0
  have hW' := hW
  obtain ⟨p, q, hA0, hV, rfl, hfz, hnd⟩ := hW
  have hA : DataW.TrodAll enc Tryz.prog W 0 (fun _ => true) true Tryz.f5.params.toList args.toList ds p := hA0
  rw [Tryz.params5] at hA hval
  obtain ⟨v0, vs0, d0, ds0, p0, q0, hargs, rfl, rfl, h0, r0⟩ := trodAll_cons hA
  obtain ⟨v1, vs1, d1, ds1, p1, q1, rfl, rfl, rfl, h1, r1⟩ := trodAll_cons r0
  obtain ⟨rfl, rfl, rfl⟩ := trodAll_nil r1
  obtain rfl : args = #[v0, v1] := by cases args; simp_all
  obtain ⟨rfl, rfl⟩ := trodVars_none hV
  obtain ⟨s0, rfl, rfl, rfl, w0⟩ := ChangeMaps.open_string Tryz.underlying9 (hval 0 9 v0 rfl rfl) h0
  obtain ⟨l1, hf1, hk1, hb1⟩ := AsmP.ins_open (hval 1 22 v1 rfl rfl) h1
  clear hA0 hval0
  have hwalk : Calls Tryz.prog 5 #[.string s0, v1] W fun e W' => e = .returned (.bool true) ∧ Wo.Mods Wo.None W W' := by
    exact AsmP.reads_any AsmP.ref_inst s0.data.toList (by have := w0; unfold maxLen at this; simpa using this) l1 hk1 v1 W (AsmP.elev_laid hL hSh).1 (AsmP.elev_laid hL hSh).2.2 (AsmP.elev_laid hL hSh).2.1 hf1 (by have := hb1; unfold maxLen at this; omega)
  refine hwalk.mono fun e W' ⟨he, hg⟩ => ?_
  subst he
  have hlt : ∀ p ∈ p1, p.block < W.heap.size := fun p hp => hW'.lt p (by simpa using hp)
  exact ⟨_, rfl, Wo.post_of_mods (pa := [] ++ (p1 ++ [])) (pv := []) hW' (fun _ _ _ => (trodAll_cons_mk (shut_bool Tryz.underlying4 _) trodAll_mk0)) (fun sp hsp => (trodAll_cons_mk (ChangeMaps.shut_string Tryz.underlying9 w0) (trodAll_cons_mk (WideElems.Trod_stays Wo.laid_out (by kernel_rfl) (of_decide_eq_true (by kernel_rfl)) h1 (fun p hp => hg.same (hlt p (by simp [hp]))) (fun p hp => hsp p (by simp [hp]))) trodAll_mk0))) (fun _ _ => rfl) (by simp)
    hg (ok_one (by kernel_rfl) rfl (okWide_bool_mk Tryz.underlying4 _))⟩

theorem row_holds : Rows.AsmReadsSaid :=
  OpenClaim.holds_of_wide 5 Tryz.f5 rfl rfl rfl rfl rfl rfl rfl ⟨rfl, rfl, rfl, rfl, rfl⟩ rfl rfl rfl rfl rfl (by kernel_rfl) Tryz.func5 (by kernel_rfl)
    (of_decide_eq_true (by kernel_rfl)) (by unfold Func.isWrapper; first | (rw [if_pos (by decide +kernel)]; kernel_rfl) | (rw [if_neg (by decide +kernel)]; exact ⟨rfl, rfl⟩))
    (fun os started H enc _ => lifted os started H enc)

/-- The statement. -/
theorem proved : Rows.AsmReadsCardSaid :=
  Claim7.holds_tied_plain_at .later [] [.data, .data, .data, .data, .handle, .data, .sentinel, .sentinel, .widerDeep, .data, .pinned] true (true, "209bee2d4753532dab148583054165df6b25c9235a3e2b918ebb5d57d4073cb1") true
    row_holds (fun _ h => by cases h) (by kernel_rfl) (fun _ h => by cases h) asmReads_row_tie rfl ⟨rfl, rfl⟩ (by kernel_rfl) rfl
    (fun f fn hf hfn => by
      obtain rfl : f = 5 := Option.some.inj ((show Tryz.prog.funcNamed "bloomery/bloomerylaw.AsmReads" = some 5 by kernel_rfl).symm.trans hf) |>.symm
      obtain rfl : fn = Tryz.f5 := (Option.some.inj (Tryz.func5.symm.trans hfn)).symm
      exact ⟨by kernel_rfl, fun j t ht => by
        rw [Tryz.params5] at ht
        have hm : t ∈ [9, 22] := by simpa using Array.mem_of_getElem? ht
        have hall : ([9, 22].all fun u => !Tryz.prog.wantsStandIn u) = true := by kernel_rfl
        exact (show Tryz.prog.wantsStandIn t = false by simpa using List.all_eq_true.1 hall t hm)⟩)
    (by kernel_rfl)
#print axioms proved
end Go.Proofs.YtodgkbcgdbhpeaaGreatDoor.asmReads

/- What AsmPlaces and AsmBack ask first: written. Conditions: the tables lie. -/
import Derived.Test.YtodgkbcgdbhpeaaGreatDoorAsmE
namespace Go.Proofs.YtodgkbcgdbhpeaaGreatDoor.AsmP
open Go.RowKit Go.Proofs.YtodgkbcgdbhpeaaGreatDoor.WordP Go.Proofs.YtodgkbcgdbhpeaaGreatDoor.Wo
set_option linter.unusedVariables false
set_option linter.unusedSimpArgs false
theorem asm_small : asmR [97, 58, 10, 98, 101, 113, 32, 120, 49, 44, 120, 48, 44, 97, 10, 106, 97, 108, 32, 120, 48, 44, 98, 10, 98, 58] = .ok [⟨25, 0, 1, 0, 0⟩, ⟨30, 0, 0, 0, 4⟩] := by kernel_rfl
theorem print_small : printB ⟨22, 5, 2, 0, -8⟩ = [108, 100, 32, 120, 53, 44, 45, 56, 40, 120, 50, 41] := by kernel_rfl
theorem right_small : (⟨22, 5, 2, 0, -8⟩ : Ins).right = true := by kernel_rfl
set_option maxRecDepth 100000 in
set_option maxHeartbeats 2000000 in
theorem written_any (W : World) (hB : Base W) : Calls Tryz.prog 6 #[] W fun e w => e = .returned (.bool true) ∧ Mods None W w := by
  have HB := Lib.hid hB
  clear hB
  go_enter Tryz.func6, Tryz.ntmps6
  go_wp2_with fail
  refine (print_any ⟨22, 5, 2, 0, -8⟩ ⟨by decide, by decide, by decide, by decide, by decide⟩ W HB.out).mono ?_
  rintro e w1 ⟨rfl, hm1⟩
  have HM1 := Lib.hid hm1
  clear hm1
  rw [print_small, right_small]
  unfold str
  go_wp2_with fail
  refine (assemble_any [97, 58, 10, 98, 101, 113, 32, 120, 49, 44, 120, 48, 44, 97, 10, 106, 97, 108, 32, 120, 48, 44, 98, 10, 98, 58] (by decide) w1 (HB.out.next HM1.out far_none)).mono ?_
  rintro e w2 hP
  unfold AsmA at hP
  rw [asm_small] at hP
  obtain ⟨⟨v, rfl, hrow⟩, hm2⟩ := hP
  have HM2 := Lib.hid (HM1.out.trans hm2)
  obtain ⟨oa, oc, rfl, -, hc⟩ := hrow.at_
  obtain ⟨g, o, rfl, -, -, -, -, -, b4⟩ := hc 0 _ rfl
  obtain ⟨g', o', he, -, -, -, -, -, c4⟩ := hc 1 _ rfl
  cases he
  simp only [Nat.zero_mul, Nat.one_mul, Nat.add_zero, Nat.add_assoc, Nat.reduceAdd] at b4 c4
  clear hm2 hrow hc HM1
  go_wp2_with fail
  go_ret
  exact ⟨rfl, HM2.out⟩
end Go.Proofs.YtodgkbcgdbhpeaaGreatDoor.AsmP

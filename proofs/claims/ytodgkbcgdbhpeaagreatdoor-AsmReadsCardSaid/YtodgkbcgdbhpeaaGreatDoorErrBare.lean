/- Errors told: contracts of law.bare, of no error and of a bare Errno. Conditions: errors.errorType lies as the program lays it. -/
import Derived.Test.YtodgkbcgdbhpeaaGreatDoorErrIs
import Derived.WalkSpells
import Derived.WalkLawsBesides
import Derived.Outline
namespace Go.Proofs.YtodgkbcgdbhpeaaGreatDoor.ErrP
open Go.RowKit Go.Proofs.YtodgkbcgdbhpeaaGreatDoor.Wo
set_option linter.unusedVariables false
set_option linter.unusedSimpArgs false
set_option maxRecDepth 100000 in
theorem bare_nil (a : Int) (W : World) : Calls Tryz.prog 19 #[.nilIface, .int .i64 a] W fun e W' => e = .returned (.bool ((0 : Int) == a)) ∧ Mods None W W' := by
  have HE := Lib.hid trivial
  skip
  go_enter Tryz.func19, Tryz.ntmps19
  go_wp2_with fail
  refine (fault_bare a W).mono ?_
  rintro e w1 ⟨rfl, hm⟩
  have HM := Lib.hid hm
  skip
  clear hm
  go_wp2_with fail
  refine (is_nil a _).mono ?_
  rintro e w2 ⟨rfl, hm2⟩
  have HM2 := Lib.hid hm2
  clear hm2
  go_wp2
  go_ret
  exact ⟨rfl, HM.out.trans HM2.out⟩
set_option maxRecDepth 100000 in
theorem bare_errno (n a : Int) (W : World) (hE : ErrLaid W) : Calls Tryz.prog 19 #[.iface 38 (.int .i64 n), .int .i64 a] W fun e W' => e = .returned (.bool (n == a)) ∧ Mods None W W' := by
  have HE := Lib.hid hE
  clear hE
  go_enter Tryz.func19, Tryz.ntmps19
  go_wp2_with fail
  refine (fault_bare a W).mono ?_
  rintro e w1 ⟨rfl, hm⟩
  have HM := Lib.hid hm
  have HE1 : Hid (ErrLaid w1) := Lib.hid (hm.cellOf HE.out (fun f => f))
  clear hm
  go_wp2_with fail
  refine (is_errno n a _ HE1.out).mono ?_
  rintro e w2 ⟨rfl, hm2⟩
  have HM2 := Lib.hid hm2
  clear hm2
  go_wp2
  go_ret
  exact ⟨rfl, HM.out.trans HM2.out⟩
end Go.Proofs.YtodgkbcgdbhpeaaGreatDoor.ErrP

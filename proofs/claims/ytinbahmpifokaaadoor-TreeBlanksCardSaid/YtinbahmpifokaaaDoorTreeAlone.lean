/- ( EXPR ). Conditions: what is read within is read so. -/
import Derived.Test.YtinbahmpifokaaaDoorTreeBind
namespace Go.Proofs.YtinbahmpifokaaaDoor.TreeP
open Go.RowKit Go.Proofs.YtinbahmpifokaaaDoor.Wo
set_option linter.unusedVariables false
set_option linter.unusedSimpArgs false
set_option maxRecDepth 100000 in
set_option maxHeartbeats 600000 in
theorem alone_of (f : Nat) (ih : ExprC f) : AloneC (f + 1) := by
  intro b S deep ts W x hd h hx
  simp only [aloneF] at hx
  have HX := Lib.hid hx
  have HR := Lib.hid h
  have HM := Lib.hid (Mods.refl (· = b) W)
  have hds : Hid ((deep : Int) + 1 = ((deep + 1 : Nat) : Int)) := Lib.hid (by omega)
  have hd0 : 0 ≤ (deep : Int) ∧ (deep : Int) ≤ 13 := by omega
  have HD := Lib.hid hd
  clear hx h hd
  go_enter Tryd.func47, Tryd.ntmps47
  go_wp2_with fail
  go_at_call 21
  refine must_of (s := [40]) HM HR HX ?_ ?_
  · rintro n a rfl g w HB HM1
    go_wp2
    exact ⟨rfl, g, rfl, HB.out, HM1.out⟩
  clear HX
  rintro r1 - HX w1 HR1 - HM1
  go_wp2_with fail
  go_at_call 48
  rw [hds.out]
  refine bind_of HM1 HR1 HX (fun y hy => ih b S 0 (deep + 1) r1 w1 y (by omega) (by have := HD.out; omega) HR1.out hy) ?_ ?_
  · rintro n a rfl g w HB HM1
    go_wp2
    exact ⟨rfl, g, rfl, HB.out, HM1.out⟩
  clear HX
  rintro v r2 - HX xv w2 hv HR2 - HM2
  have HV := Lib.hid hv
  clear hv
  go_wp2_with fail
  go_at_call 21
  refine must_of (s := [41]) HM2 HR2 HX ?_ ?_
  · rintro n a rfl g w HB HM1
    go_wp2
    exact ⟨rfl, g, rfl, HB.out, HM1.out⟩
  clear HX
  rintro r3 - HX w3 HR3 hm HM3
  obtain rfl := (Option.some.inj HX.out).symm
  go_wp2
  go_ret
  exact ⟨_, rfl, HV.out.by HR2.out hm.out, HR3.out.par, HM3.out⟩
end Go.Proofs.YtinbahmpifokaaaDoor.TreeP

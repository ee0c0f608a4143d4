/- The package's variables lie in a world of the program's shape. Conditions: none. -/
import Derived.Test.YtodgkbcgdbhpeaaGreatDoorAsmO
namespace Go.Proofs.YtodgkbcgdbhpeaaGreatDoor.AsmP
open Go.RowKit Go.WideShapes Go.Proofs.YtodgkbcgdbhpeaaGreatDoor.WordP Go.Proofs.YtodgkbcgdbhpeaaGreatDoor.Wo
theorem last_row : (((begin Tryz.prog (fun _ _ => 0) default).world.heap[12 - 1]?).bind Obj.row?).isSome = true := by kernel_rfl
theorem room_of {W : World} (h : W.ShapedOpen Tryz.prog) : 12 ≤ W.heap.size := by
  obtain ⟨⟨z, t⟩, hz⟩ := Option.isSome_iff_exists.1 last_row
  obtain ⟨cs, hc, -⟩ := h.1 (12 - 1) z t (of_decide_eq_true (by kernel_rfl)) hz
  have := lt_of_block hc
  omega
end Go.Proofs.YtodgkbcgdbhpeaaGreatDoor.AsmP

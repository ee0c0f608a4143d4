/- Slices of numbers as arguments: opened to lists. No conditions. -/
import Derived.Test.YtodgkbcgdbhpeaaGreatDoorRows
import Derived.Test.YtodgkbcgdbhpeaaGreatDoorMods
import Derived.ProofKit
import Derived.WideShapes
import Derived.OpenShut
import Derived.ChangeSlices
import Derived.WideKeyArgs
namespace Go.Proofs.YtodgkbcgdbhpeaaGreatDoor.Wo
open Go.ChangeShapes Go.WideShapes Go.RowKit
set_option linter.unusedVariables false
set_option linter.unusedSimpArgs false
/-- A list of numbers, at a slice. -/
def NumsAt (W : World) (v : Value) (l : List Int) : Prop :=
  ∃ a n c, v = .slice a n c ∧ n = l.length ∧ n ≤ c ∧ c ≤ maxLen ∧ (a = none → c = 0) ∧ (∀ x ∈ l, -9223372036854775808 ≤ x ∧ x ≤ 9223372036854775807) ∧ (∀ i x, l[i]? = some x → ∃ g o, a = some ⟨g, o, none⟩ ∧ W.cell? ⟨g, o + i, none⟩ = some (.int .i64 x))
theorem addr_of_cell {W : World} {a : Addr} {v : Value} (h : W.cell? a = some v) : a = ⟨a.block, a.off, none⟩ := by
  unfold World.cell? at h
  split at h
  · split at h
    · cases h
    · rename_i hs
      cases a with
      | mk b o s => cases s with
        | none => rfl
        | some _ => simp at hs
  · cases h
theorem add_plain (b o i : Nat) : (⟨b, o, none⟩ : Addr).add i = ⟨b, o + i, none⟩ := by unfold Addr.add; split <;> simp_all
theorem wf_i64 {a : Int} (h : (Lit.int .i64 a).wf = true) : -9223372036854775808 ≤ a ∧ a ≤ 9223372036854775807 := by
  simp only [Lit.wf, IntKind.min, IntKind.max, IntKind.signed, IntKind.bits, Bool.and_eq_true, decide_eq_true_eq, if_true] at h
  omega
theorem nums_open {H : Type} {enc : TypeId × Value → H} {P : Program} {W : World} {t e : TypeId} {v : Value} {d : DataW H} {p : List MemPlace} {r : Reach} {b0 : Nat} (ht : P.underlying t = some (.slice e)) (he : P.underlying e = some (.int .i64)) (hc : P.cellsOf e = 1)
    (hv : Value.okWide P W r b0 t v) (h : DataW.Trod enc P W 0 (fun _ => true) true t v d p) : ∃ l, NumsAt W v l := by
  obtain ⟨a0, n0, c0, rfl⟩ := okWide_slice ht hv
  obtain ⟨fuel, hf⟩ := h
  rcases open_ints ht he hc hf with ⟨hcs, hx⟩ | ⟨a, len, cap, zs, hcs, _, hl, hm, hz, hx, hcell, hwz⟩
  · simp [Value.cells] at hcs
    obtain ⟨rfl, rfl, rfl⟩ := hcs
    exact ⟨[], none, 0, 0, rfl, rfl, Nat.le_refl _, by decide, fun _ => rfl, fun x hx => by simp at hx, fun i x hx => by simp at hx⟩
  · simp [Value.cells] at hcs
    obtain ⟨rfl, rfl, rfl⟩ := hcs
    simp only [if_true] at hz
    refine ⟨zs.take n0, some a, n0, c0, rfl, by rw [List.length_take]; omega, hl, hm, (fun h => (by cases h)), fun x hx => wf_i64 (hwz x (List.mem_of_mem_take hx)), fun i x hx => ?_⟩
    have hi : i < n0 := by
      have := (List.getElem?_eq_some_iff.1 hx).1
      rw [List.length_take] at this; omega
    rw [List.getElem?_take_of_lt hi] at hx
    have h0 := addr_of_cell (hcell 0 (by omega))
    have e0 : a.add 0 = a := by unfold Addr.add; simp
    rw [e0] at h0
    have hci := hcell i (by omega)
    rw [h0, add_plain] at hci
    refine ⟨a.block, a.off, by rw [← h0], ?_⟩
    rw [hci, List.getD_eq_getElem?_getD, hx]
    rfl
theorem laid_out : laidOutB Tryz.prog = true := by kernel_rfl
theorem cells_int : Tryz.prog.cellsOf 3 = 1 := by kernel_rfl
end Go.Proofs.YtodgkbcgdbhpeaaGreatDoor.Wo

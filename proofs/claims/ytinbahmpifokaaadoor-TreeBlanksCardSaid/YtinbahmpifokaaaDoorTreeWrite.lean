/- The builder of the text. No conditions. -/
import Derived.Test.YtinbahmpifokaaaDoorTreeTextCall
import Derived.Test.YtinbahmpifokaaaDoorTreeSt
import Derived.Test.YtinbahmpifokaaaDoorShelf
namespace Go.Proofs.YtinbahmpifokaaaDoor.TreeP
open Go.RowKit Go.Proofs.YtinbahmpifokaaaDoor.Wo
set_option linter.unusedVariables false
set_option linter.unusedSimpArgs false
/-- The builder at b holds t; all since W0 is new. -/
structure Bld (W0 w : World) (b : Nat) (t : List UInt8) : Prop where
  blt : Lib.IsBuilderF 57 5 W0.heap.size b (Lib.byteCells t) w
  mods : Mods None W0 w
theorem bat_mods {T e : TypeId} {B b : Nat} {p : Value} {bs : List Value} {w w' : World} (h : Lib.BuilderAtF T e B b p bs w) (hm : Mods None w w') : Lib.BuilderAtF T e B b p bs w' := by
  obtain ⟨h1, v, h2, ⟨h3, h4⟩, h5⟩ := h
  refine ⟨h1, v, hm.blockOf h2 (fun f => f), ⟨h3, ?_⟩, h5⟩
  rcases h4 with h4 | ⟨g, cap, cur, fz, a1, a2, a3, a4⟩
  · exact Or.inl h4
  · exact Or.inr ⟨g, cap, cur, fz, a1, a2, hm.blockOf a3 (fun f => f), a4⟩
theorem Bld.quiet {W0 w w' : World} {b : Nat} {t : List UInt8} (h : Bld W0 w b t) (hm : Mods None w w') : Bld W0 w' b t :=
  ⟨h.blt.elim (fun x => Or.inl (bat_mods x hm)) (fun x => Or.inr (bat_mods x hm)), h.mods.trans hm⟩
theorem Bld.ge {W0 w : World} {b : Nat} {t : List UInt8} (h : Bld W0 w b t) : W0.heap.size ≤ b := h.blt.elim (fun x => x.1) (fun x => x.1)
/-- All but the builder and rows of bytes. -/
def Kept (b : Nat) (w w' : World) : Prop := Lib.OthersKept 5 (some b) w w'
theorem kept_quiet {b : Nat} {w w' : World} (hm : Mods None w w') : Kept b w w' := fun k o hk _ _ => hm.blockOf hk (fun f => f)
theorem Kept.trans {b : Nat} {w w' w'' : World} (h : Kept b w w') (k : Kept b w' w'') : Kept b w w'' := Lib.OthersKept.trans h k
theorem blk_kept {b : Nat} {w w' : World} (h : Kept b w w') {k : Nat} {cs : List Value} {t : TypeId} (hb : Blk w k cs t) (hne : k ≠ b) (ht : t ≠ 5) : Blk w' k cs t :=
  h k _ hb (by simpa using hne) (fun c fz he => by cases he; exact ht rfl)
theorem write_any {W0 w : World} {b : Nat} {t : List UInt8} (h : Bld W0 w b t) (s : List UInt8) (hl : t.length + s.length ≤ 100000000000000) :
    Calls Tryd.prog 15 #[.pointer (some ⟨b, 0, none⟩), .string ⟨s.toArray⟩] w fun e w' => e = .returned (.tuple #[.int .i64 s.length, .nilIface]) ∧ Bld W0 w' b (t ++ s) ∧ Kept b w w' := by
  have hc := Any.Builder_WriteString_k (P := Tryd.prog) (ρ := Tryd.lays156_ren) { Tryd.lays156 with } Tryd.Builder_Extra_156 W0.heap.size b (Lib.byteCells t) ⟨s.toArray⟩ w h.blt (by rw [Lib.byteCells_length]; simp only [ByteArray.size, List.size_toArray]; omega) h.mods.size
  refine Calls.mono hc ?_
  rintro e w' ⟨rfl, h1, h2, h3⟩
  refine ⟨by simp [ByteArray.size], ⟨Or.inr ?_, ⟨h2.os.trans h.mods.os, h2.output.trans h.mods.output, Nat.le_trans h.mods.size h2.size, fun k hk hn => (h2.block k hk).trans (h.mods.block k hk hn)⟩⟩, h3⟩
  have e1 : Lib.byteCells (t ++ s) = Lib.byteCells t ++ Lib.strCells ⟨s.toArray⟩ := by simp [Lib.byteCells, Lib.strCells]
  rw [e1]
  exact h1
theorem write_of {W0 w : World} {b : Nat} {t : List UInt8} (h : Bld W0 w b t) (X : ByteArray) (s : List UInt8) (hx : X = ⟨s.toArray⟩) (hl : t.length + s.length ≤ 100000000000000) :
    Calls Tryd.prog 15 #[.pointer (some ⟨b, 0, none⟩), .string X] w fun e w' => e = .returned (.tuple #[.int .i64 s.length, .nilIface]) ∧ Bld W0 w' b (t ++ s) ∧ Kept b w w' := by
  rw [hx]
  exact write_any h s hl
end Go.Proofs.YtinbahmpifokaaaDoor.TreeP

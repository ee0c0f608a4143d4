/- An instruction as an argument: opened to its five numbers, and read again. No conditions. -/
import Derived.Test.YtgeajgdddjjjnaaDoorWordLaid
namespace Go.Proofs.YtgeajgdddjjjnaaDoor.WordP
set_option linter.unusedSimpArgs false
open Go.Joins Go.ChangeShapes Go.WideShapes Go.RowKit Go.Deep
set_option linter.unusedVariables false
theorem u23 : Tryd.prog.underlying 23 = some (.struct #[fieldAt 23 0, fieldAt 23 1, fieldAt 23 2, fieldAt 23 3, fieldAt 23 4]) := by kernel_rfl
theorem off23 : (fieldAt 23 0).offset = 0 ∧ (fieldAt 23 1).offset = 1 ∧ (fieldAt 23 2).offset = 2 ∧ (fieldAt 23 3).offset = 3 ∧ (fieldAt 23 4).offset = 4 := ⟨by kernel_rfl, by kernel_rfl, by kernel_rfl, by kernel_rfl, by kernel_rfl⟩
theorem und23 : Tryd.prog.underlying (fieldAt 23 0).type = some (.int .i64) ∧ Tryd.prog.underlying (fieldAt 23 1).type = some (.int .i64) ∧ Tryd.prog.underlying (fieldAt 23 2).type = some (.int .i64) ∧ Tryd.prog.underlying (fieldAt 23 3).type = some (.int .i64) ∧ Tryd.prog.underlying (fieldAt 23 4).type = some (.int .i64) := ⟨by kernel_rfl, by kernel_rfl, by kernel_rfl, by kernel_rfl, by kernel_rfl⟩
theorem cel23 : Tryd.prog.cellsOf (fieldAt 23 0).type = 1 ∧ Tryd.prog.cellsOf (fieldAt 23 1).type = 1 ∧ Tryd.prog.cellsOf (fieldAt 23 2).type = 1 ∧ Tryd.prog.cellsOf (fieldAt 23 3).type = 1 ∧ Tryd.prog.cellsOf (fieldAt 23 4).type = 1 := ⟨by kernel_rfl, by kernel_rfl, by kernel_rfl, by kernel_rfl, by kernel_rfl⟩
theorem c23 : Tryd.prog.cellsOf 23 = 5 := by kernel_rfl
/-- The five numbers fit their kind. -/
structure Ins.fits (x : Ins) : Prop where
  op : (Lit.int .i64 x.op).wf = true
  rd : (Lit.int .i64 x.rd).wf = true
  ra : (Lit.int .i64 x.ra).wf = true
  rb : (Lit.int .i64 x.rb).wf = true
  n : (Lit.int .i64 x.n).wf = true
/-- An instruction, as it is read. -/
def Ins.datum {H : Type} (x : Ins) : DataW H := .agg [.lit (.int .i64 x.op), .lit (.int .i64 x.rd), .lit (.int .i64 x.ra), .lit (.int .i64 x.rb), .lit (.int .i64 x.n)]
set_option maxRecDepth 10000 in
theorem inst_open {H : Type} {enc : TypeId × Value → H} {W : World} {r : Reach} {b0 base : Nat} {spare : Nat → Bool} {held : Bool} {v : Value} {d : DataW H} {p : List MemPlace}
    (hv : Value.okWide Tryd.prog W r b0 23 v) (h : DataW.Trod enc Tryd.prog W base spare held 23 v d p) : ∃ x : Ins, v = x.val ∧ d = x.datum ∧ p = [] ∧ x.fits := by
  obtain ⟨cs, rfl, hsz⟩ := okWide_struct u23 hv
  rw [c23] at hsz
  obtain ⟨fuel, hf⟩ := h
  obtain ⟨xs, n, _, hx, _, hlen, hg⟩ := DataW.trod_struct u23 hf
  obtain ⟨o0, o1, o2, o3, o4⟩ := off23
  obtain ⟨u0, u1, u2, u3, u4⟩ := und23
  obtain ⟨k0, k1, k2, k3, k4⟩ := cel23
  obtain ⟨l⟩ := cs
  match l, hsz, xs, hlen with
  | [q0, q1, q2, q3, q4], _, [y0, y1, y2, y3, y4], _ =>
    have g0 : DataW.trod enc Tryd.prog W base spare held n (fieldAt 23 0).type [q0] = some y0 := by
      have := hg 0 (fieldAt 23 0) rfl
      rw [o0, k0] at this
      exact this
    have g1 : DataW.trod enc Tryd.prog W base spare held n (fieldAt 23 1).type [q1] = some y1 := by
      have := hg 1 (fieldAt 23 1) rfl
      rw [o1, k1] at this
      exact this
    have g2 : DataW.trod enc Tryd.prog W base spare held n (fieldAt 23 2).type [q2] = some y2 := by
      have := hg 2 (fieldAt 23 2) rfl
      rw [o2, k2] at this
      exact this
    have g3 : DataW.trod enc Tryd.prog W base spare held n (fieldAt 23 3).type [q3] = some y3 := by
      have := hg 3 (fieldAt 23 3) rfl
      rw [o3, k3] at this
      exact this
    have g4 : DataW.trod enc Tryd.prog W base spare held n (fieldAt 23 4).type [q4] = some y4 := by
      have := hg 4 (fieldAt 23 4) rfl
      rw [o4, k4] at this
      exact this
    obtain ⟨n0, a0, b0, w0⟩ := DataW.trod_int u0 g0
    obtain ⟨n1, a1, b1, w1⟩ := DataW.trod_int u1 g1
    obtain ⟨n2, a2, b2, w2⟩ := DataW.trod_int u2 g2
    obtain ⟨n3, a3, b3, w3⟩ := DataW.trod_int u3 g3
    obtain ⟨n4, a4, b4, w4⟩ := DataW.trod_int u4 g4
    simp only [List.cons.injEq, and_true] at a0 a1 a2 a3 a4
    subst a0 a1 a2 a3 a4 b0 b1 b2 b3 b4
    simp only [Prod.mk.injEq, List.map_cons, List.map_nil, List.flatMap_cons, List.flatMap_nil, List.append_nil] at hx
    exact ⟨⟨n0, n1, n2, n3, n4⟩, rfl, hx.1, hx.2, ⟨w0, w1, w2, w3, w4⟩⟩
theorem inst_shut {H : Type} {enc : TypeId × Value → H} {W : World} {base : Nat} {spare : Nat → Bool} {held : Bool} {x : Ins} (hx : x.fits) : DataW.Trod enc Tryd.prog W base spare held 23 x.val x.datum [] := by
  obtain ⟨o0, o1, o2, o3, o4⟩ := off23
  obtain ⟨u0, u1, u2, u3, u4⟩ := und23
  obtain ⟨k0, k1, k2, k3, k4⟩ := cel23
  have := trod_struct_mk (enc := enc) (w := W) (base := base) (spare := spare) (held := held) (n := 1) (cs := [.int .i64 x.op, .int .i64 x.rd, .int .i64 x.ra, .int .i64 x.rb, .int .i64 x.n])
    (xs := [(.lit (.int .i64 x.op), []), (.lit (.int .i64 x.rd), []), (.lit (.int .i64 x.ra), []), (.lit (.int .i64 x.rb), []), (.lit (.int .i64 x.n), [])]) u23 (by rw [c23]; rfl)
    (by
      have t0 := trod_int_mk (enc := enc) (w := W) (base := base) (spare := spare) (held := held) 0 u0 hx.op
      have t1 := trod_int_mk (enc := enc) (w := W) (base := base) (spare := spare) (held := held) 0 u1 hx.rd
      have t2 := trod_int_mk (enc := enc) (w := W) (base := base) (spare := spare) (held := held) 0 u2 hx.ra
      have t3 := trod_int_mk (enc := enc) (w := W) (base := base) (spare := spare) (held := held) 0 u3 hx.rb
      have t4 := trod_int_mk (enc := enc) (w := W) (base := base) (spare := spare) (held := held) 0 u4 hx.n
      simp only [Nat.zero_add] at t0 t1 t2 t3 t4
      simp [o0, o1, o2, o3, o4, k0, k1, k2, k3, k4, t0, t1, t2, t3, t4])
  exact ⟨2, this⟩
end Go.Proofs.YtgeajgdddjjjnaaDoor.WordP

/- How a machine ended, as it is told: contracts of machine.End, Reg, PC. Conditions: that the machine lies in memory. -/
import Derived.Test.YtgeajgdddjjjnaaDoorMachCall
import Derived.Laws.OwnMore
import Derived.Laws.AppendOwnNone
namespace Go.Proofs.YtgeajgdddjjjnaaDoor.MachP
open Go.RowKit Go.Proofs.YtgeajgdddjjjnaaDoor.Wo Go.Proofs.YtgeajgdddjjjnaaDoor.WordP
set_option linter.unusedVariables false
set_option linter.unusedSimpArgs false

/-- What is told of an end: its way, its code, and a slice of its own that reads as what it told. -/
def EndIs (way code : Int) (out : List Int) (W : World) (e : Ending) (W' : World) : Prop :=
  ∃ sv, e = .returned (.agg #[.int .i64 way, .int .i64 code, sv]) ∧ W'.ownsRow W.heap.size 2 1 sv out.length (out.map (.int .i64)) ∧ Mods None W W'
theorem ownsRow_base {w : World} {B B' : Nat} {e : TypeId} {size : Nat} {v : Value} {n : Nat} {xs : List Value} (h : w.ownsRow B e size v n xs) (hB : B' ≤ B) : w.ownsRow B' e size v n xs := by
  obtain ⟨h1, h2⟩ := h
  refine ⟨h1, ?_⟩
  rcases h2 with h2 | ⟨g, cap, cur, hv, hg, r⟩
  · exact .inl h2
  · exact .inr ⟨g, cap, cur, hv, by omega, r⟩
theorem form_any {W : World} {B : Nat} {v : Value} {n : Nat} {xs : List Value} (h : W.ownsRow B 2 1 v n xs) : ∃ a m c, v = .slice a m c := by
  rcases h.2 with ⟨h, _⟩ | ⟨g, cap, cur, hv, _⟩
  · exact ⟨_, _, _, h⟩
  · exact ⟨_, _, _, hv⟩
theorem three_new (W : World) (a c d : Array Value) (t u v : TypeId) : Blk (((W.alloc (.cells a t)).alloc (.cells c u)).alloc (.cells d v)) W.heap.size a.toList t ∧ Blk (((W.alloc (.cells a t)).alloc (.cells c u)).alloc (.cells d v)) (W.heap.size + 1) c.toList u := by
  refine ⟨((Blk.new W a t).alloc _).alloc _, ?_⟩
  have := (Blk.new (W.alloc (.cells a t)) c u).alloc (.cells d v)
  simpa using this
set_option maxRecDepth 100000 in
set_option maxHeartbeats 400000 in
theorem end_any (b : Nat) (O : Nat → Prop) (M : Mac) (W : World) (h : Mach W b O M) :
    Calls Tryd.prog 22 #[.pointer (some ⟨b, 0, none⟩)] W (EndIs M.way M.code M.out W) := by
  obtain ⟨bm, inv, outv, h1, h2⟩ := h
  have hw := h1.cway
  have hc := h1.ccode
  have ho := h1.cout
  have hb := h1.blk.lt
  have HO := Lib.hid h1.out
  have H1 := Lib.hid h1
  have hmany := h1.many
  clear h1 h2
  obtain ⟨i0, hi, hz0, hz1, hz2⟩ := info_parts Tryd.info2
  have H3 : Hid (∀ a c : Obj, (((W.alloc a).alloc c).alloc (.cells #[] 2)).ownsRow (W.heap.size + 1 + 1) 2 1 (.slice (some ⟨W.heap.size + 1 + 1, 0, none⟩) 0 0) 0 []) := Lib.hid fun a c => by
    have := World.ownsRow_made (base := W.heap.size + 1 + 1) (e := 2) (size := 1) ((W.alloc a).alloc c) #[] 0 (by simp) (by decide) rfl
    simpa using this
  have HS : ∀ (W3 w1 : World) (v' : Value) (cs : List Value), Mods None W W3 → W3.heap.size = W.heap.size + 1 + 1 + 1 → W3.grownBy w1 (some (W.heap.size + 1 + 1)) → w1.ownsRow (W.heap.size + 1 + 1) 2 1 v' M.out.length (M.out.map (.int .i64)) →
      EndIs M.way M.code M.out W (.returned (.agg #[.int .i64 M.way, .int .i64 M.code, v'])) ((((w1.setCell ⟨W.heap.size + 1, 2, none⟩ v').setCell ⟨W.heap.size, 0, none⟩ (.int .i64 M.way)).setCell ⟨W.heap.size, 1, none⟩ (.int .i64 M.code)).setCell ⟨W.heap.size, 2, none⟩ v') := by
    intro W3 w1 v' cs hm hsz hg hown
    have hlt := hown.lt
    have hm1 : Mods None W w1 := hm.trans' (Mods.of_grownBy (S := fun k => W.heap.size + 1 + 1 = k) hg (fun k hk _ => by simpa using hk)) (fun i hi hlt => by omega)
    refine ⟨v', rfl, ?_, ?_⟩
    · refine ownsRow_base (B := W.heap.size + 1 + 1) ?_ (by omega)
      refine Mods.ownsRow (S := fun k => k = W.heap.size ∨ k = W.heap.size + 1) (a := w1) ?_ hown (fun k hk => ?_)
      · exact ((((Mods.refl _ _).setCell (fun _ => .inr rfl) _).setCell (fun _ => .inl rfl) _).setCell (fun _ => .inl rfl) _).setCell (fun _ => .inl rfl) _
      · have := (hlt k hk).1
        omega
    · exact (((hm1.setCell (fun h => absurd h (by show ¬ W.heap.size + 1 < W.heap.size; omega)) _).setCell (fun h => absurd h (Nat.lt_irrefl _)) _).setCell (fun h => absurd h (Nat.lt_irrefl _)) _).setCell (fun h => absurd h (Nat.lt_irrefl _)) _
  have HS' := Lib.hid HS
  clear HS
  rcases out_form HO.out with ⟨hv, h6⟩ | ⟨g, cap, hv⟩
  · subst hv
    have hl : M.out = [] := List.eq_nil_of_length_eq_zero h6
    rw [hl]
    clear h6 hl HS'
    go_enter Tryd.func22, Tryd.ntmps22
    go_wp2_with (at_builtin; refine wpList_append_own_none rfl (.tmp 8) (.tmp 10) 45 rfl (W.heap.size + 1 + 1) 2 i0 1 Tryd.underlying45 hi (.slice (some ⟨W.heap.size + 1 + 1, 0, none⟩) 0 0) 0 [] rfl (H3.out _ _) rfl ?_)
    refine bodyPost_ret (v := .agg #[.int .i64 M.way, .int .i64 M.code, .slice (some ⟨W.heap.size + 1 + 1, 0, none⟩) 0 0]) (by simp [results, Tryd.results22, go_sem]) rfl ?_
    exact ⟨_, rfl, ownsRow_base (H3.out _ _) (by omega), (((Mods.refl _ _).alloc _).alloc _).alloc _⟩
  · subst hv
    go_enter Tryd.func22, Tryd.ntmps22
    go_wp2_with (at_builtin; refine wpList_append_own _ rfl (.tmp 8) (.tmp 10) 45 rfl (W.heap.size + 1 + 1) 2 i0 (.int .i64 0) 1 8 Tryd.underlying45 hi hz0 hz1 hz2 rfl (by decide) (.slice (some ⟨W.heap.size + 1 + 1, 0, none⟩) 0 0) 0 [] rfl (H3.out _ _) ⟨g, 0, none⟩ M.out.length cap (M.out.map (.int .i64)) rfl ?b3 ?c1 ?c2 ?c3 ?c4 ?c5 ?_)
    case b3 => simp
    case c1 => exact (((HO.out.alloc _).alloc _).alloc _).cells rfl
    case c2 =>
      intro u hu
      simp only [List.mem_map] at hu
      obtain ⟨a, _, rfl⟩ := hu
      rfl
    case c3 => unfold maxLen; omega
    case c4 => omega
    case c5 => simp
    intro v' w1 hown hgrow _
    obtain ⟨va, vm, vc, rfl⟩ := form_any hown
    obtain ⟨k1, k2⟩ := three_new W #[Value.int IntKind.i64 0, Value.int IntKind.i64 0, Value.slice none 0 0] #[Value.int IntKind.i64 M.way, Value.int IntKind.i64 M.code, Value.slice (some ⟨g, 0, none⟩) M.out.length cap] #[] 47 47 2
    have hm := Mods.of_grownBy (S := fun k => W.heap.size + 1 + 1 = k) hgrow (fun k hk _ => by simpa [Value.ownBlock] using hk)
    have k3 := k1.mods hm (by omega)
    have k4 := k2.mods hm (by omega)
    have e0 := k3.cell (i := 0) rfl
    have e1 := k3.cell (i := 1) rfl
    have e2 := k3.cell (i := 2) rfl
    have f3 := k3.free
    have d0 := k4.cell (i := 0) rfl
    have d1 := k4.cell (i := 1) rfl
    have d2 := k4.cell (i := 2) rfl
    have f4 := k4.free
    have HO2 := Lib.hid hown
    have HG2 := Lib.hid hgrow
    clear k1 k2 k3 k4 hm hown hgrow
    go_wp2
    refine bodyPost_ret (v := .agg #[.int .i64 M.way, .int .i64 M.code, .slice va vm vc]) (by simp [results, Tryd.results22, go_sem, e0, e1, e2, d0, d1, d2]) rfl ?_
    exact HS'.out _ w1 (.slice va vm vc) [] (((Mods.refl _ _).alloc _).alloc _ |>.alloc _) (by simp) HG2.out HO2.out
theorem pc_any (b : Nat) (O : Nat → Prop) (M : Mac) (W : World) (h : Mach W b O M) :
    Calls Tryd.prog 20 #[.pointer (some ⟨b, 0, none⟩)] W fun e W' => e = .returned (.int .i64 M.pc) ∧ W = W' := by
  obtain ⟨bm, inv, outv, h1, h2⟩ := h
  have hpc := h1.cpc
  clear h1 h2
  go_enter Tryd.func20, Tryd.ntmps20
  go_wp2
  go_ret
  exact ⟨rfl, rfl⟩
theorem reg_in (b : Nat) (O : Nat → Prop) (M : Mac) (W : World) (h : Mach W b O M) (n : Int) (h0 : 0 ≤ n) (h1 : n < 32) :
    Calls Tryd.prog 21 #[.pointer (some ⟨b, 0, none⟩), .int .i64 n] W fun e W' => e = .returned (.int .i64 (M.reg n)) ∧ W = W' := by
  obtain ⟨bm, inv, outv, h2, h3⟩ := h
  have hc := h2.reg h0 h1
  clear h2 h3
  go_enter Tryd.func21, Tryd.ntmps21
  go_wp2
  go_ret
  exact ⟨rfl, rfl⟩
theorem reg_out (a : Value) (W : World) (n : Int) (h : n < 0 ∨ 32 ≤ n) :
    Calls Tryd.prog 21 #[a, .int .i64 n] W fun e W' => e = .returned (.int .i64 0) ∧ W = W' := by
  rcases h with h | h
  · go_enter Tryd.func21, Tryd.ntmps21
    go_wp2
    go_ret
    exact ⟨rfl, rfl⟩
  · go_enter Tryd.func21, Tryd.ntmps21
    go_wp2
    go_ret
    exact ⟨rfl, rfl⟩
end Go.Proofs.YtgeajgdddjjjnaaDoor.MachP

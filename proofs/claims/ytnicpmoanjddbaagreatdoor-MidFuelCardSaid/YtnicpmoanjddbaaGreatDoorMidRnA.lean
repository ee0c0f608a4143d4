/- What mid's Run does behind the call: how it ended is told. Printed by mkmrn.py. Conditions: what it has lies. -/
import Derived.Test.YtnicpmoanjddbaaGreatDoorMidCalw
import Derived.Laws.AppendOwnNone
import Derived.Defers
import Derived.Recover
namespace Go.Proofs.YtnicpmoanjddbaaGreatDoor.MidP
open Go.RowKit Go.Proofs.YtnicpmoanjddbaaGreatDoor.Wo Go.Maps Go.Proofs.YtnicpmoanjddbaaGreatDoor.TreeP
set_option linter.unusedVariables false
set_option linter.unusedSimpArgs false
theorem ownsRow_slice {W : World} {B : Nat} {e : TypeId} {size n : Nat} {v : Value} {vs : List Value} (h : W.ownsRow B e size v n vs) : ∃ oa oc, v = .slice oa n oc ∧ n ≤ oc ∧ oc ≤ maxLen ∧ (∀ j u, vs[j]? = some u → ∃ g, oa = some ⟨g, 0, none⟩ ∧ v.ownBlock = some g ∧ W.cell? ⟨g, j, none⟩ = some u) := by
  rcases h.2 with ⟨rfl, rfl⟩ | ⟨g, cap, cur, rfl, _, hg, h3, h4, _⟩
  · have : vs = [] := List.eq_nil_of_length_eq_zero (by simpa using h.1)
    subst this
    exact ⟨none, 0, rfl, Nat.le_refl _, by decide, fun j u hj => by simp at hj⟩
  · refine ⟨_, _, rfl, h3, h4, fun j u hj => ⟨g, rfl, rfl, ?_⟩⟩
    have := h.cells (g := g) rfl j u hj
    simpa [Addr.add_lit] using this
theorem old_none (o : Old) : o.1.dropWhile (!·.goexit) = [] := by
  obtain ⟨l, h⟩ := o
  induction l with
  | nil => rfl
  | cons x r ih =>
    have h1 := h x (by simp)
    have h2 := ih (fun y hy => h y (by simp [hy]))
    simp only at h2
    simp [List.dropWhile, h1, h2]
theorem mis_ended (v : Value) (w : World) : Sem.run Tryz.prog (Instr.typeAssert (.iface 64 v) 20 64 true) w = .ok (.tuple #[v, .bool true]) w := by
  simp [Instr.typeAssert, run_underlying Tryz.underlying64]
set_option maxRecDepth 100000 in
theorem mend_idle (q6 q7 b : Nat) (w1 w2 : Int) (oa : Option Addr) (on oc : Nat) (u : Value) (w : World) (h6 : Blk w q6 [.int .i64 w1, .int .i64 w2, u] 31) (h7 : w.cell? ⟨q7, 0, none⟩ = some (.pointer (some ⟨b, 0, none⟩))) (hb : w.cell? ⟨b, 4, none⟩ = some (.slice oa on oc)) :
    CallsD Tryz.prog 22 #[.pointer (some ⟨q6, 0, none⟩), .pointer (some ⟨q7, 0, none⟩)] .returning w fun e u' w' => e = .returned (.tuple #[]) ∧ u' = .returning ∧ Blk w' q6 [.int .i64 w1, .int .i64 w2, .slice oa on oc] 31 ∧ Mods (· = q6) w w' := by
  have f6 := h6.free 2
  have c6 := h6.cell (i := 2) rfl
  have H6 := Lib.hid h6
  clear h6
  refine callsD_of_wpS Tryz.func22 rfl fun c₀ cs hu => ?_
  apply wpS_seq
  apply wpS_seq
  apply wpS_region
  simp [wpOpsS, go_sem, recoverD, hu, Tryz.ntmps22, Exit.thenS]
  refine wpS_of_wp ?_
  rw [show (#[Value.pointer (some ⟨q6, 0, none⟩), .pointer (some ⟨q7, 0, none⟩)] ++ ((Array.replicate 22 undef).setIfInBounds 3 (.nilIface)).setIfInBounds 0 (.nilIface) : Array Value) = #[Value.pointer (some ⟨q6, 0, none⟩), .pointer (some ⟨q7, 0, none⟩), .nilIface, undef, undef, .nilIface, undef, undef, undef, undef, undef, undef, undef, undef, undef, undef, undef, undef, undef, undef, undef, undef, undef, undef] from by kernel_rfl]
  go_wp2
  simp only [Exit.thenS]
  refine wpS_of_wp ?_
  go_wp2
  clear f6 c6 h7 hb
  cases c₀
  simp_all [bodyPostS, results, Tryz.results22]
  exact ⟨H6.out.set 2 (.slice oa on oc), mods_put _ _ _ _⟩
set_option maxRecDepth 100000 in
theorem mend_stop (q6 q7 b : Nat) (n w1 w2 : Int) (oa : Option Addr) (on oc : Nat) (u : Value) (older : List PanicEntry) (w : World) (h6 : Blk w q6 [.int .i64 w1, .int .i64 w2, u] 31) (h7 : w.cell? ⟨q7, 0, none⟩ = some (.pointer (some ⟨b, 0, none⟩))) (hb : w.cell? ⟨b, 4, none⟩ = some (.slice oa on oc)) (h76 : q7 ≠ q6) (hb6 : b ≠ q6) :
    CallsD Tryz.prog 22 #[.pointer (some ⟨q6, 0, none⟩), .pointer (some ⟨q7, 0, none⟩)] (.panicking ({ v := endedV n, recovered := false } :: older)) w fun e u' w' => e = .returned (.tuple #[]) ∧ u' = .panicking ({ v := endedV n, recovered := true } :: older) ∧ Blk w' q6 [.int .i64 n, .int .i64 0, .slice oa on oc] 31 ∧ Mods (· = q6) w w' := by
  have f0 := h6.free 0
  have f1 := h6.free 1
  have f2 := h6.free 2
  have c0 := h6.cell (i := 0) rfl
  have c1 := h6.cell (i := 1) rfl
  have c2 := h6.cell (i := 2) rfl
  have l6 := h6.lt
  have l7 := World.block_lt_of_cell? w _ h7
  have lb := World.block_lt_of_cell? w _ hb
  simp only at l7 lb
  have H6 := Lib.hid h6
  clear h6
  refine callsD_of_wpS Tryz.func22 rfl fun c₀ cs hu => ?_
  apply wpS_seq
  apply wpS_seq
  apply wpS_region
  unfold endedV at hu
  simp [wpOpsS, go_sem, recoverD, hu, Tryz.ntmps22, Exit.thenS]
  refine wpS_of_wp ?_
  rw [show (#[Value.pointer (some ⟨q6, 0, none⟩), .pointer (some ⟨q7, 0, none⟩)] ++ ((Array.replicate 22 undef).setIfInBounds 3 (.iface 64 (.agg #[.int .i64 n]))).setIfInBounds 0 (.iface 64 (.agg #[.int .i64 n])) : Array Value) = #[Value.pointer (some ⟨q6, 0, none⟩), .pointer (some ⟨q7, 0, none⟩), .iface 64 (.agg #[.int .i64 n]), undef, undef, .iface 64 (.agg #[.int .i64 n]), undef, undef, undef, undef, undef, undef, undef, undef, undef, undef, undef, undef, undef, undef, undef, undef, undef, undef] from by kernel_rfl]
  have hta := mis_ended (.agg #[.int .i64 n]) w
  have n6 : q6 ≠ w.heap.size := by omega
  have n7 : q7 ≠ w.heap.size := by omega
  have nb : b ≠ w.heap.size := by omega
  go_wp2
  simp only [Exit.thenS]
  refine wpS_of_wp ?_
  go_wp2
  clear f0 f1 f2 c0 c1 c2 hta h7 hb
  cases c₀
  simp_all [bodyPostS, results, Tryz.results22, endedV]
  exact ⟨((((H6.out.set 0 (.int .i64 n)).set 1 (.int .i64 0)).set 2 (.slice none 0 0)).set 2 (.slice oa on oc)).alloc _, ((((mods_put _ _ _ _).trans (mods_put _ _ _ _)).trans (mods_put _ _ _ _)).trans (mods_put _ _ _ _)).alloc _⟩
theorem mend_cells {w : World} {q6 : Nat} {w1 w2 : Int} {ov : Value} (h : Blk w q6 [.int .i64 w1, .int .i64 w2, ov] 31) : w.cell? ⟨q6, 0, none⟩ = some (.int .i64 w1) ∧ w.cell? ⟨q6, 1, none⟩ = some (.int .i64 w2) ∧ w.cell? ⟨q6, 2, none⟩ = some ov := ⟨h.cell rfl, h.cell rfl, h.cell rfl⟩
theorem mrun_done {R : Ending → World → Prop} {tmps : Array Value} {q6 q7 b : Nat} {w1 w2 : Int} {oa : Option Addr} {on oc : Nat} {u : Value} {w : World} (h6 : tmps[6]?.getD undef = .pointer (some ⟨q6, 0, none⟩)) (hB : Blk w q6 [.int .i64 w1, .int .i64 w2, u] 31) (h7 : w.cell? ⟨q7, 0, none⟩ = some (.pointer (some ⟨b, 0, none⟩))) (hb : w.cell? ⟨b, 4, none⟩ = some (.slice oa on oc))
    (hR : ∀ w', Blk w' q6 [.int .i64 w1, .int .i64 w2, .slice oa on oc] 31 → Mods (· = q6) w w' → R (.returned (.agg #[.int .i64 w1, .int .i64 w2, .slice oa on oc])) w') :
    Leaves Tryz.prog Tryz.f9 tmps R [{ target := Target.fn (Go.Fn.func 22) #[.pointer (some ⟨q6, 0, none⟩), .pointer (some ⟨q7, 0, none⟩)], args := #[] }] .returning w := by
  refine leaves_cons (f := 22) (args := #[.pointer (some ⟨q6, 0, none⟩), .pointer (some ⟨q7, 0, none⟩)]) (by simp) (by simp [go_sem]) ?_
  refine (mend_idle q6 q7 b w1 w2 oa on oc u w hB h7 hb).mono ?_
  rintro e u' w' ⟨rfl, rfl, hB', hm⟩
  have hr := results_cell_row (P := Tryz.prog) Tryz.results9 tmps w' q6 _ _ _ _ (by simpa using h6) hB' Tryz.underlying31 rfl (by kernel_rfl)
  have HR := Lib.hid (hR w' hB' hm)
  clear hR hB' hm
  show Leaves _ _ _ _ [] .returning w'
  unfold Leaves
  exact ⟨_, hr, HR.out⟩
/-- What was told is still there. -/
theorem mrun_stop {R : Ending → World → Prop} {tmps : Array Value} {q6 q7 b : Nat} {n w1 w2 : Int} {oa : Option Addr} {on oc : Nat} {u : Value} {w : World} (older : Old) (h6 : tmps[6]?.getD undef = .pointer (some ⟨q6, 0, none⟩)) (hB : Blk w q6 [.int .i64 w1, .int .i64 w2, u] 31) (h7 : w.cell? ⟨q7, 0, none⟩ = some (.pointer (some ⟨b, 0, none⟩))) (hb : w.cell? ⟨b, 4, none⟩ = some (.slice oa on oc)) (h76 : q7 ≠ q6) (hb6 : b ≠ q6)
    (hR : ∀ w', Blk w' q6 [.int .i64 n, .int .i64 0, .slice oa on oc] 31 → Mods (· = q6) w w' → R (.returned (.agg #[.int .i64 n, .int .i64 0, .slice oa on oc])) w') :
    Leaves Tryz.prog Tryz.f9 tmps R [{ target := Target.fn (Go.Fn.func 22) #[.pointer (some ⟨q6, 0, none⟩), .pointer (some ⟨q7, 0, none⟩)], args := #[] }] (.panicking ({ v := endedV n, recovered := false } :: older.1)) w := by
  refine leaves_cons (f := 22) (args := #[.pointer (some ⟨q6, 0, none⟩), .pointer (some ⟨q7, 0, none⟩)]) (by simp) (by simp [go_sem]) ?_
  refine (mend_stop q6 q7 b n w1 w2 oa on oc u older.1 w hB h7 hb h76 hb6).mono ?_
  rintro e u' w' ⟨rfl, rfl, hB', hm⟩
  have hr := results_cell_row (P := Tryz.prog) Tryz.results9 tmps w' q6 _ _ _ _ (by simpa using h6) hB' Tryz.underlying31 rfl (by kernel_rfl)
  have HR := Lib.hid (hR w' hB' hm)
  have ho := old_none older
  clear hR hB' hm
  have hs : settle (FrameMode.panicking ({ v := endedV n, recovered := true } :: older.1)) = .returning := by simp [settle, ho]
  show Leaves _ _ _ _ [] (settle (FrameMode.panicking ({ v := endedV n, recovered := true } :: older.1))) w'
  rw [hs]
  unfold Leaves
  exact ⟨_, hr, HR.out⟩
/-- What a program is told at its end. -/
def EndV (W : World) (x : Int × Int × List Int) (v : Value) : Prop := ∃ oa oc, v = .agg #[.int .i64 x.1, .int .i64 x.2.1, .slice oa x.2.2.length oc] ∧ InAt W None (.slice oa x.2.2.length oc) x.2.2 ∧ x.2.2.length ≤ 200 ∧ (oa = none → oc = 0)
theorem EndV.mods {W W' : World} {x : Int × Int × List Int} {v : Value} (h : EndV W x v) (hm : Mods None W W') : EndV W' x v := by
  obtain ⟨oa, oc, h1, h2, h3⟩ := h
  exact ⟨oa, oc, h1, h2.mods hm (fun _ _ f => f), h3⟩
theorem in_of_row {W : World} {S : Nat → Prop} {B : Nat} {v : Value} {l : List Int} (h : W.ownsRow B 2 1 v l.length (l.map (.int .i64))) (hS : ∀ k, v.ownBlock = some k → ¬ S k) : InAt W S v l := by
  obtain ⟨a, c, rfl, h1, h2, h3⟩ := ownsRow_slice h
  refine ⟨a, _, c, rfl, rfl, h1, h2, fun i x hx => ?_⟩
  obtain ⟨g, e1, e2, e3⟩ := h3 i (.int .i64 x) (by rw [List.getElem?_map, hx]; rfl)
  exact ⟨g, 0, e1, hS g e2, by simpa using e3⟩
theorem mk_mfns (w : World) : (Instr.makeMap 60 none).run Tryz.prog w = .ok (.map (some w.heap.size)) (w.alloc (.map #[] 0)) := by
  simp [Instr.makeMap, run_underlying Tryz.underlying60]
theorem own_C (W : World) : (W.alloc (.cells #[] 2)).ownsRow W.heap.size 2 1 (.slice (some ⟨W.heap.size, 0, none⟩) 0 0) 0 [] :=
  World.ownsRow_made (base := W.heap.size) (e := 2) (size := 1) W #[] 0 (Nat.le_refl _) (by decide) rfl
/-- Numbers that are given are copied behind none. -/
theorem wpList_copy {ops : Array Oper} {rest : List Oper} {o : Oper} {a : Act} {Q : Exit → Act → World → Prop} {w : World} (hgd : o.guard = none) (s x : Operand)
    (ho : o.op = .call { callee := .builtin .append, args := #[s, x], argTypes := #[23, 23] })
    (base : Nat) (v iv : Value) (hs : a.eval s = v) (hown : w.ownsRow base 2 1 v 0 []) (hb : base ≤ w.heap.size) (S : Nat → Prop) (l : List Int) (hx : a.eval x = iv) (hi : InAt w S iv l) (h0 : ∀ n c, iv = .slice none n c → c = 0) (hl : l.length ≤ 1000000)
    (h : ∀ v' w', w'.ownsRow base 2 1 v' l.length (l.map (.int .i64)) → Mods (fun k => v.ownBlock = some k) w w' → (∃ a c, v' = .slice a l.length c) → (v'.ownBlock = v.ownBlock ∨ v'.ownBlock = some w.heap.size) → wpList Tryz.prog ops Q rest (a.put o.dst v') w') :
    wpList Tryz.prog ops Q (o :: rest) a w := by
  obtain ⟨i0, hi0, hz0, hz1, hz2⟩ := info_parts infoInt
  obtain ⟨ia, n, c, rfl, hn, hnc, hcm, hcell⟩ := hi
  cases ia with
  | none =>
    obtain rfl : c = 0 := h0 _ _ rfl
    obtain rfl : n = 0 := by omega
    obtain rfl : l = [] := List.eq_nil_of_length_eq_zero hn.symm
    refine wpList_append_own_none (P := Tryz.prog) hgd s x _ ho base _ i0 1 Tryz.underlying23 hi0 v 0 [] hs hown hx ?_
    obtain ⟨a', c', e, _⟩ := ownsRow_slice hown
    exact h v w hown (Mods.refl _ _) ⟨a', c', e⟩ (Or.inl rfl)
  | some ad =>
    refine wpList_append_own_at (P := Tryz.prog) w hgd s x _ ho base _ i0 (.int .i64 0) 1 8 Tryz.underlying23 hi0 hz0 hz1 hz2 rfl (by decide) v 0 [] hs hown ad n c (l.map (.int .i64)) hx (by rw [List.length_map, ← hn, Nat.mul_one]) (fun j u hu => ?_) (fun u hu => ?_) (by unfold maxLen; omega) (by omega) hb (fun v' w' h1 h2 h3 h4 => ?_)
    · rw [List.getElem?_map] at hu
      obtain ⟨y, hy, rfl⟩ := Option.map_eq_some_iff.1 hu
      obtain ⟨g, o, e1, _, e2⟩ := hcell j y hy
      obtain rfl := Option.some.inj e1
      rw [show (⟨g, o, none⟩ : Addr).add j = ⟨g, o + j, none⟩ by unfold Addr.add; split <;> simp_all]
      exact e2
    · obtain ⟨y, _, rfl⟩ := List.mem_map.1 hu
      rfl
    · rw [Nat.zero_add, List.nil_append, hn] at h1
      obtain ⟨a', c', e, _⟩ := ownsRow_slice h1
      exact h v' w' h1 (Mods.of_grownBy h2 (fun k hk _ => hk)) ⟨a', c', e⟩ h4
theorem own_none {W : World} {B : Nat} {e : TypeId} {size n m : Nat} {oa : Option Addr} {oc : Nat} {xs : List Value} (h : W.ownsRow B e size (.slice oa n oc) m xs) : oa = none → oc = 0 := by
  rcases h.2 with ⟨e1, _⟩ | ⟨g, cap, cur, e1, _⟩
  · obtain ⟨-, -, rfl⟩ := Value.slice.inj e1
    exact fun _ => rfl
  · obtain ⟨rfl, -, -⟩ := Value.slice.inj e1
    intro h; cases h
end Go.Proofs.YtnicpmoanjddbaaGreatDoor.MidP

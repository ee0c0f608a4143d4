/- Functions of steps, collected in a row. No conditions. -/
import Derived.Test.YtnicpmoanjddbaaGreatDoorMidMem
import Derived.Test.YtnicpmoanjddbaaGreatDoorNums
namespace Go.Proofs.YtnicpmoanjddbaaGreatDoor.MidP
open Go.RowKit Go.Proofs.YtnicpmoanjddbaaGreatDoor.Wo Go.Maps Go.Proofs.YtnicpmoanjddbaaGreatDoor.TreeP
set_option linter.unusedVariables false
set_option linter.unusedSimpArgs false
theorem int_info : (Tryz.prog.info? 3).map (fun i => (i.zero, i.size, i.bytes)) = some (some (.int .i64 0), 1, 8) := by kernel_rfl
def zeroStp : Value := .agg #[.int .i64 0, .int .i64 0, .int .i64 0, .int .i64 0, .int .i64 0, .int .i64 0, .string ⟨#[]⟩, .int .i64 0, .string ⟨#[]⟩, .slice none 0 0]
theorem stp_info : (Tryz.prog.info? 57).map (fun i => (i.zero, i.size, i.bytes)) = some (some zeroStp, 10, 112) := by kernel_rfl
/-- Steps, cell by cell. -/
def RelS (W : World) (S : Nat → Prop) (cs : List Value) (l : List Stp) : Prop := ∀ (i : Nat) (x : Stp), l[i]? = some x → ∃ av, (∀ k u, (stpL x av)[k]? = some u → cs[i * 10 + k]? = some u) ∧ IntsAt W S av x.args
theorem RelS.mods {W W' : World} {S T : Nat → Prop} {cs : List Value} {l : List Stp} (h : RelS W S cs l) (hm : Mods S W W') (hT : ∀ k, k < W.heap.size → T k → S k) : RelS W' T cs l := fun i x hx => by
  obtain ⟨av, h1, h2⟩ := h i x hx
  exact ⟨av, h1, h2.mods hm hT⟩
theorem stpL_len (x : Stp) (av : Value) : (stpL x av).length = 10 := rfl
theorem RelS.grow {W : World} {S : Nat → Prop} {cs : List Value} {l : List Stp} (h : RelS W S cs l) (hl : cs.length = l.length * 10) {x : Stp} {av : Value} (hx : IntsAt W S av x.args) : RelS W S (cs ++ stpL x av) (l ++ [x]) := fun i y hy => by
  rcases Nat.lt_or_ge i l.length with hi | hi
  · rw [List.getElem?_append_left hi] at hy
    obtain ⟨bv, h1, h2⟩ := h i y hy
    refine ⟨bv, fun k u hk => ?_, h2⟩
    have hk10 : k < 10 := by
      have := (List.getElem?_eq_some_iff.1 hk).1
      rwa [stpL_len] at this
    rw [List.getElem?_append_left (by omega)]
    exact h1 k u hk
  · rw [List.getElem?_append_right hi] at hy
    obtain ⟨hi2, hy⟩ := List.getElem?_eq_some_iff.1 hy
    simp only [List.length_singleton] at hi2
    obtain rfl : i = l.length := by omega
    simp only [Nat.sub_self, List.getElem_cons_zero] at hy
    subst hy
    refine ⟨av, fun k u hk => ?_, hx⟩
    rw [List.getElem?_append_right (by omega), show l.length * 10 + k - cs.length = k by omega]
    exact hk
/-! Functions that are collected. -/
def fmL (F : Fm) (tv sv : Value) : List Value := [str F.name, .int .i64 F.params, tv, sv]
def RelF (W : World) (S : Nat → Prop) (cs : List Value) (l : List Fm) : Prop := ∀ (i : Nat) (x : Fm), l[i]? = some x → ∃ tv sv, (∀ k u, (fmL x tv sv)[k]? = some u → cs[i * 4 + k]? = some u) ∧ IntsAt W S tv x.types ∧ StpsAt W S sv x.steps
theorem RelF.mods {W W' : World} {S T : Nat → Prop} {cs : List Value} {l : List Fm} (h : RelF W S cs l) (hm : Mods S W W') (hT : ∀ k, k < W.heap.size → T k → S k) : RelF W' T cs l := fun i x hx => by
  obtain ⟨tv, sv, h1, h2, h3⟩ := h i x hx
  exact ⟨tv, sv, h1, h2.mods hm hT, h3.mods hm hT⟩
theorem RelF.grow {W : World} {S : Nat → Prop} {cs : List Value} {l : List Fm} (h : RelF W S cs l) (hl : cs.length = l.length * 4) {x : Fm} {tv sv : Value} (hx : IntsAt W S tv x.types) (hx2 : StpsAt W S sv x.steps) : RelF W S (cs ++ fmL x tv sv) (l ++ [x]) := fun i y hy => by
  rcases Nat.lt_or_ge i l.length with hi | hi
  · rw [List.getElem?_append_left hi] at hy
    obtain ⟨bv, dv, h1, h2, h3⟩ := h i y hy
    refine ⟨bv, dv, fun k u hk => ?_, h2, h3⟩
    have hk10 : k < 4 := (List.getElem?_eq_some_iff.1 hk).1
    rw [List.getElem?_append_left (by omega)]
    exact h1 k u hk
  · rw [List.getElem?_append_right hi] at hy
    obtain ⟨hi2, hy⟩ := List.getElem?_eq_some_iff.1 hy
    simp only [List.length_singleton] at hi2
    obtain rfl : i = l.length := by omega
    simp only [Nat.sub_self, List.getElem_cons_zero] at hy
    subst hy
    refine ⟨tv, sv, fun k u hk => ?_, hx, hx2⟩
    rw [List.getElem?_append_right (by omega), show l.length * 4 + k - cs.length = k by omega]
    exact hk
/-- Functions in a row of their own, apart from q. -/
def OutF (W : World) (base q : Nat) (v : Value) (l : List Fm) : Prop := ∃ cs, W.ownsRow base 55 4 v l.length cs ∧ RelF W (fun k => k = q ∨ v.ownBlock = some k) cs l ∧ ∀ k, v.ownBlock = some k → k ≠ q
theorem OutF.none_ (W : World) (base q : Nat) : OutF W base q (.slice none 0 0) [] := ⟨[], World.ownsRow_nil _ _ _ _, (fun i x hx => by simp at hx), (fun k hk => by cases hk)⟩
theorem OutF.mods {W W' : World} {base q : Nat} {v : Value} {l : List Fm} (h : OutF W base q v l) (hm : Mods (· = q) W W') : OutF W' base q v l := by
  obtain ⟨cs, h1, h2, h3⟩ := h
  exact ⟨cs, hm.ownsRow h1 (fun k hk ht => h3 k hk ht), h2.mods (hm.mono fun k _ ht => Or.inl ht) (fun _ _ k => k), h3⟩
theorem OutF.form {W : World} {base q : Nat} {v : Value} {l : List Fm} (h : OutF W base q v l) : ∃ oa oc, v = .slice oa l.length oc := by
  obtain ⟨cs, h1, _⟩ := h
  rcases h1.2 with ⟨hv, h0⟩ | ⟨g, cap, cur, hv, _⟩
  · exact ⟨_, _, by rw [hv, h0]⟩
  · exact ⟨_, _, hv⟩
theorem OutF.lt {W : World} {base q : Nat} {v : Value} {l : List Fm} (h : OutF W base q v l) : ∀ k, v.ownBlock = some k → base ≤ k ∧ k < W.heap.size := by
  obtain ⟨cs, h1, _⟩ := h
  exact h1.lt
theorem OutF.at_ {W : World} {base q : Nat} {v : Value} {l : List Fm} (h : OutF W base q v l) : FmsAt W None v l := by
  obtain ⟨cs, h1, h2, -⟩ := h
  rcases h1.2 with ⟨hv, h0⟩ | ⟨g, cap, cur, hv, h3, h4, h5, h6, h7, h8⟩
  · obtain rfl : l = [] := List.eq_nil_of_length_eq_zero h0
    exact ⟨none, 0, hv, Nat.zero_le _, Nat.zero_le _, fun _ => rfl, fun i s hs => by simp at hs⟩
  · refine ⟨_, cap, hv, h5, h6, (fun h => by cases h), fun i s hs => ?_⟩
    obtain ⟨tv, sv, k1, k2, k3⟩ := h2 i s hs
    have hc : ∀ k u, (fmL s tv sv)[k]? = some u → W.cell? ⟨g, 0 + i * 4 + k, none⟩ = some u := fun k u hk => by
      have := h1.cells (g := g) (by rw [hv]; rfl) (i * 4 + k) u (k1 k u hk)
      rw [add_plain] at this
      rw [Nat.add_assoc]
      exact this
    exact ⟨g, 0, tv, sv, rfl, (fun f => f), hc 0 _ rfl, hc 1 _ rfl, hc 2 _ rfl, hc 3 _ rfl, k2.mods (Mods.refl _ _) (fun k _ f => f.elim), k3.mods (Mods.refl _ _) (fun k _ f => f.elim)⟩
theorem outF_grow {w4 w5 : World} {base q : Nat} {v v' : Value} {l : List Fm} {cs : List Value} {x : Fm} {tv sv : Value} (h1 : w4.ownsRow base 55 4 v l.length cs) (h2 : RelF w4 (fun k => k = q ∨ v.ownBlock = some k) cs l) (h3 : ∀ k, v.ownBlock = some k → k ≠ q) (hq : q < w4.heap.size) (hx : IntsAt w4 (fun k => k = q ∨ v.ownBlock = some k) tv x.types) (hx2 : StpsAt w4 (fun k => k = q ∨ v.ownBlock = some k) sv x.steps)
    (hown : w5.ownsRow base 55 4 v' (l.length + 1) (cs ++ fmL x tv sv)) (hg : w4.grownBy w5 v.ownBlock) (hloc : v'.ownBlock = v.ownBlock ∨ v'.ownBlock = some w4.heap.size) : OutF w5 base q v' (l ++ [x]) := by
  have hm : Mods (fun k => k = q ∨ v.ownBlock = some k) w4 w5 := (Mods.of_grownBy (S := fun k => v.ownBlock = some k) hg (fun k hk _ => hk)).mono fun k _ h => Or.inr h
  have hT : ∀ k, k < w4.heap.size → (k = q ∨ v'.ownBlock = some k) → (k = q ∨ v.ownBlock = some k) := fun k hk e => e.imp id (fun e => by
    rcases hloc with hl | hl
    · rw [← hl]; exact e
    · rw [hl] at e
      have := Option.some.inj e
      omega)
  refine ⟨cs ++ fmL x tv sv, by simpa using hown, ?_, fun k hk e => ?_⟩
  · exact (h2.mods hm hT).grow h1.1 (hx.mods hm hT) (hx2.mods hm hT)
  · rcases hloc with hl | hl
    · exact h3 k (by rw [← hl]; exact hk) e
    · rw [hl] at hk
      have := Option.some.inj hk
      omega
def zeroFnV : Value := .agg #[.string ⟨#[]⟩, .int .i64 0, .slice none 0 0, .slice none 0 0]
theorem fn_info : (Tryz.prog.info? 55).map (fun i => (i.zero, i.size, i.bytes)) = some (some zeroFnV, 4, 72) := by kernel_rfl
theorem fm_one (x : Fm) (ta sa : Option Addr) (tn tc sn sc : Nat) : ∀ u ∈ fmL x (.slice ta tn tc) (.slice sa sn sc), u.oneCell' = true := by
  intro u hu
  unfold fmL at hu
  simp only [List.mem_cons, List.not_mem_nil, or_false] at hu
  rcases hu with rfl | rfl | rfl | rfl <;> rfl
end Go.Proofs.YtnicpmoanjddbaaGreatDoor.MidP

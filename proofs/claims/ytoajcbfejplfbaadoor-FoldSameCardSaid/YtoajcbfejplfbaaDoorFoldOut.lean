/- Steps that are collected one by one, apart from what else turns. Conditions: what is asked lies. -/
import Derived.Test.YtoajcbfejplfbaaDoorFoldStep
namespace Go.Proofs.YtoajcbfejplfbaaDoor.MidP
open Go.RowKit Go.Proofs.YtoajcbfejplfbaaDoor.Wo Go.Maps Go.Proofs.YtoajcbfejplfbaaDoor.TreeP
set_option linter.unusedVariables false
set_option linter.unusedSimpArgs false
/-- Steps in a row of their own, apart from S. -/
def Outs (W : World) (base : Nat) (S : Nat → Prop) (v : Value) (l : List Stp) : Prop := ∃ cs, W.ownsRow base 44 10 v l.length cs ∧ RelS W (fun k => S k ∨ v.ownBlock = some k) cs l ∧ ∀ k, v.ownBlock = some k → ¬ S k
theorem Outs.none_ (W : World) (base : Nat) (S : Nat → Prop) : Outs W base S (.slice none 0 0) [] := ⟨[], World.ownsRow_nil _ _ _ _, fun i x hx => by simp at hx, fun k hk => by cases hk⟩
theorem Outs.mods {W W' : World} {S T : Nat → Prop} {base : Nat} {v : Value} {l : List Stp} (h : Outs W base S v l) (hm : Mods T W W') (hT : ∀ k, T k → S k) : Outs W' base S v l := by
  obtain ⟨cs, h1, h2, h3⟩ := h
  exact ⟨cs, hm.ownsRow h1 (fun k hk ht => h3 k hk (hT k ht)), h2.mods (hm.mono fun k _ ht => Or.inl (hT k ht)) (fun _ _ k => k), h3⟩
theorem Outs.shift {W : World} {S S' : Nat → Prop} {base : Nat} {v : Value} {l : List Stp} (h : Outs W base S v l) (hS : ∀ k, k < W.heap.size → S' k → S k) : Outs W base S' v l := by
  obtain ⟨cs, h1, h2, h3⟩ := h
  refine ⟨cs, h1, h2.mods (Mods.refl _ _) (fun k hk ht => ht.imp (hS k hk) id), fun k hk hs => h3 k hk (hS k (h1.lt k hk).2 hs)⟩
theorem Outs.form {W : World} {S : Nat → Prop} {base : Nat} {v : Value} {l : List Stp} (h : Outs W base S v l) : ∃ oa oc, v = .slice oa l.length oc := by
  obtain ⟨cs, h1, _⟩ := h
  exact slice_form h1
/-- One more. -/
theorem outs_grow {w4 w5 : World} {S S1 : Nat → Prop} {base : Nat} {v v' : Value} {l : List Stp} {cs : List Value} {x : Stp} {av : Value} (h1 : w4.ownsRow base 44 10 v l.length cs) (h2 : RelS w4 (fun k => S k ∨ v.ownBlock = some k) cs l) (h3 : ∀ k, v.ownBlock = some k → ¬ S k) (hx : IntsAt w4 S1 av x.args) (hS1 : ∀ k, S k ∨ v.ownBlock = some k → S1 k) (hS : ∀ k, S k → k < w4.heap.size)
    (hown : w5.ownsRow base 44 10 v' (l.length + 1) (cs ++ stpL x av)) (hg : w4.grownBy w5 v.ownBlock) (hloc : v'.ownBlock = v.ownBlock ∨ v'.ownBlock = some w4.heap.size) : Outs w5 base S v' (l ++ [x]) := by
  have hm : Mods (fun k => v.ownBlock = some k) w4 w5 := Mods.of_grownBy hg (fun k hk _ => hk)
  have hT : ∀ k, k < w4.heap.size → S k ∨ v'.ownBlock = some k → S k ∨ v.ownBlock = some k := fun k hk ht => ht.imp id (fun e => by
    rcases hloc with hl | hl
    · rw [← hl]; exact e
    · rw [hl] at e
      have := Option.some.inj e
      omega)
  refine ⟨cs ++ stpL x av, by simpa using hown, ?_, fun k hk hs => ?_⟩
  · refine (h2.mods (hm.mono fun k _ e => Or.inr e) hT).grow h1.1 ?_
    exact hx.mods (hm.mono fun k _ e => hS1 k (Or.inr e)) (fun k hk ht => hS1 k (hT k hk ht))
  · rcases hloc with hl | hl
    · exact h3 k (by rw [← hl]; exact hk) hs
    · rw [hl] at hk
      have h5 := Option.some.inj hk
      have h6 := hS k hs
      omega
/-- They are steps that are only read. -/
theorem Outs.at_ {W : World} {S : Nat → Prop} {base : Nat} {v : Value} {l : List Stp} (h : Outs W base S v l) : StpsAt W S v l := by
  obtain ⟨cs, h1, h2, h9⟩ := h
  rcases h1.2 with ⟨hv, h0⟩ | ⟨g, cap, cur, hv, h3, h4, h5, h6, h7, h8⟩
  · obtain rfl : l = [] := List.eq_nil_of_length_eq_zero h0
    exact ⟨none, 0, hv, Nat.zero_le _, Nat.zero_le _, fun _ => rfl, fun i s hs => by simp at hs⟩
  · refine ⟨_, cap, hv, h5, h6, (fun h => by cases h), fun i s hs => ?_⟩
    obtain ⟨av, k1, k2⟩ := h2 i s hs
    have hc : ∀ k u, (stpL s av)[k]? = some u → W.cell? ⟨g, 0 + i * 10 + k, none⟩ = some u := fun k u hk => by
      have := h1.cells (g := g) (by rw [hv]; rfl) (i * 10 + k) u (k1 k u hk)
      rw [add_plain] at this
      rw [Nat.add_assoc]
      exact this
    exact ⟨g, 0, av, rfl, h9 g (by rw [hv]; rfl), ⟨hc 0 _ rfl, hc 1 _ rfl, hc 2 _ rfl, hc 3 _ rfl, hc 4 _ rfl, hc 5 _ rfl, hc 6 _ rfl, hc 7 _ rfl, hc 8 _ rfl, hc 9 _ rfl⟩, k2.mods (Mods.refl _ _) (fun k _ hs => Or.inl hs)⟩
theorem stp_one (x : Stp) (aa : Option Addr) (n c : Nat) : ∀ u ∈ stpL x (.slice aa n c), u.oneCell' = true := by
  intro u hu
  unfold stpL at hu
  simp only [List.mem_cons, List.not_mem_nil, or_false] at hu
  rcases hu with rfl | rfl | rfl | rfl | rfl | rfl | rfl | rfl | rfl | rfl <;> rfl
theorem row_new (W : World) (cs : List Value) (e : TypeId) : ∀ j u, cs[j]? = some u → (W.alloc (.cells cs.toArray e)).cell? ((⟨W.heap.size, 0, none⟩ : Addr).add j) = some u := by
  intro j u hj
  rw [add_plain, Nat.zero_add]
  exact (Blk.new W cs.toArray e).cell (by simpa using hj)
theorem known_len : (k : Kn) → (l : List Stp) → (knownS k l).length ≤ l.length
  | _, [] => by simp [knownS]
  | k, s :: r => by
    rw [knownS]
    split
    · have := known_len (freshK k s) r
      simp only [List.length_cons]
      omega
    · have := known_len ((freshK k s).learn ((freshK k s).step s)) r
      simp only [List.length_cons]
      omega
/-- A function of which the steps are others: its end. -/
theorem fn_end {wr : World} {q : Nat} {n p t u z0 z1 z2 z3 : Value} (h0 : Blk wr q [n, p, t, u] 35) (h1 : Blk wr (q + 1) [z0, z1, z2, z3] 35) (ov : Value) :
    Blk (((((wr.setCell ⟨q, 3, none⟩ ov).setCell ⟨q + 1, 0, none⟩ n).setCell ⟨q + 1, 1, none⟩ p).setCell ⟨q + 1, 2, none⟩ t).setCell ⟨q + 1, 3, none⟩ ov) (q + 1) [n, p, t, ov] 35 ∧
    Mods (fun k => k = q ∨ k = q + 1) wr (((((wr.setCell ⟨q, 3, none⟩ ov).setCell ⟨q + 1, 0, none⟩ n).setCell ⟨q + 1, 1, none⟩ p).setCell ⟨q + 1, 2, none⟩ t).setCell ⟨q + 1, 3, none⟩ ov) := by
  have hm := mods_set wr q 3 ov
  have h2 := h1.mods hm (by omega)
  refine ⟨(((h2.set 0 n).set 1 p).set 2 t).set 3 ov, (hm.mono fun _ _ e => Or.inl e).trans (Mods.mono ((((mods_set _ (q + 1) 0 n).trans (mods_set _ _ 1 p)).trans (mods_set _ _ 2 t)).trans (mods_set _ _ 3 ov)) fun _ _ e => Or.inr e)⟩
end Go.Proofs.YtoajcbfejplfbaaDoor.MidP

/- Places as they lie; what is thrown. Conditions: what is asked lies. -/
import Derived.Test.YtnicpmoanjddbaaGreatDoorMidRunM
namespace Go.Proofs.YtnicpmoanjddbaaGreatDoor.MidP
open Go.RowKit Go.Proofs.YtnicpmoanjddbaaGreatDoor.Wo Go.Maps Go.Proofs.YtnicpmoanjddbaaGreatDoor.TreeP
set_option linter.unusedVariables false
set_option linter.unusedSimpArgs false
set_option maxRecDepth 100000 in
theorem stop_any (n : Int) (W : World) : Calls Tryz.prog 50 #[.int .i64 n] W fun e w => Pan (.stop n) e ∧ W = w := by
  go_enter Tryz.func50, Tryz.ntmps50
  go_wp2
  exact ⟨rfl, ⟨Old.nil, rfl⟩, rfl⟩
/-- Places, in a block of their own. -/
def PlAt (W : World) (P M : Nat → Prop) (A : List (Nat × Nat)) (g : Nat) (v : Pl) : Prop :=
  ∃ cs : List Value, Blk W g cs 123 ∧ cs.length = v.length * 2 ∧ (∀ (j : Nat) (x : V), v[j]? = some x → ∃ u w, cs[j * 2]? = some u ∧ cs[j * 2 + 1]? = some w ∧ VAt A x (.agg #[u, w])) ∧ ¬ M g ∧ ¬ P g
theorem PlAt.ext {W W' : World} {P T M M' : Nat → Prop} {A A' : List (Nat × Nat)} {g : Nat} {v : Pl} (h : PlAt W P M A g v) (hE : Ext T M M' W W') (hT : ¬ T g) (hA : A <+: A') : PlAt W' P M' A' g v := by
  obtain ⟨cs, h1, h2, h3, h4, h5⟩ := h
  refine ⟨cs, h1.mods hE.mods (fun k => k.elim hT h4), h2, fun j x hx => ?_, fun hm => h4 (hE.back g h1.lt hm), h5⟩
  obtain ⟨u, w, e1, e2, e3⟩ := h3 j x hx
  exact ⟨u, w, e1, e2, e3.more hA⟩
/-- A place is read. -/
theorem PlAt.get {W : World} {P M : Nat → Prop} {A : List (Nat × Nat)} {g : Nat} {v : Pl} (h : PlAt W P M A g v) {p : Nat} (hp : p < v.length) : ∃ u w, W.cell? ⟨g, p * 2, none⟩ = some u ∧ W.cell? ⟨g, p * 2 + 1, none⟩ = some w ∧ VAt A (v.get (p : Int)) (.agg #[u, w]) := by
  obtain ⟨cs, h1, h2, h3, h4, h5⟩ := h
  obtain ⟨u, w, e1, e2, e3⟩ := h3 p v[p] (List.getElem?_eq_getElem hp)
  refine ⟨u, w, h1.cell e1, h1.cell e2, ?_⟩
  have : v.get (p : Int) = v[p] := by
    unfold Pl.get
    rw [Int.toNat_natCast, List.getD_eq_getElem?_getD, List.getElem?_eq_getElem hp]
    rfl
  rw [this]
  exact e3
/-- A place is written. -/
theorem PlAt.put {W : World} {P M : Nat → Prop} {A : List (Nat × Nat)} {g : Nat} {v : Pl} (h : PlAt W P M A g v) {p : Nat} (hp : p < v.length) {x : V} {u w : Value} (hx : VAt A x (.agg #[u, w])) : PlAt ((W.setCell ⟨g, p * 2, none⟩ u).setCell ⟨g, p * 2 + 1, none⟩ w) P M A g (v.put (p : Int) x) ∧ Mods (· = g) W ((W.setCell ⟨g, p * 2, none⟩ u).setCell ⟨g, p * 2 + 1, none⟩ w) := by
  obtain ⟨cs, h1, h2, h3, h4, h5⟩ := h
  refine ⟨⟨(cs.set (p * 2) u).set (p * 2 + 1) w, (h1.set (p * 2) u).set (p * 2 + 1) w, ?_, fun j y hy => ?_, h4, h5⟩, (mods_put _ _ _ _).trans (mods_put _ _ _ _)⟩
  · unfold Pl.put
    simp [h2]
  · unfold Pl.put at hy
    rw [Int.toNat_natCast] at hy
    by_cases hj : j = p
    · subst hj
      rw [List.getElem?_set_self hp] at hy
      obtain rfl := Option.some.inj hy
      refine ⟨u, w, ?_, ?_, hx⟩
      · rw [List.getElem?_set_ne (by omega), List.getElem?_set_self (by omega)]
      · rw [List.getElem?_set_self (by rw [List.length_set]; omega)]
    · rw [List.getElem?_set_ne (fun e => hj e.symm)] at hy
      obtain ⟨u', w', e1, e2, e3⟩ := h3 j y hy
      refine ⟨u', w', ?_, ?_, e3⟩
      · rw [List.getElem?_set_ne (by omega), List.getElem?_set_ne (by omega)]
        exact e1
      · rw [List.getElem?_set_ne (by omega), List.getElem?_set_ne (by omega)]
        exact e2
end Go.Proofs.YtnicpmoanjddbaaGreatDoor.MidP

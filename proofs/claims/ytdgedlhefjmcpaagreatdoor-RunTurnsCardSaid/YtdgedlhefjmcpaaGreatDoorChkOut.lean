/- Whether something is found of a program, as the laws ask. Conditions: what is read lies. -/
import Derived.Test.YtdgedlhefjmcpaaGreatDoorChkRun
import Derived.Test.YtdgedlhefjmcpaaGreatDoorTurnPlain
import Derived.Test.YtdgedlhefjmcpaaGreatDoorRead
import Derived.Test.YtdgedlhefjmcpaaGreatDoorPick
import Derived.Test.YtdgedlhefjmcpaaGreatDoorTreePar
import Derived.Test.YtdgedlhefjmcpaaGreatDoorTreeBck
namespace Go.Proofs.YtdgedlhefjmcpaaGreatDoor.TreeP
open Go.RowKit Go.Proofs.YtdgedlhefjmcpaaGreatDoor.Wo
set_option linter.unusedVariables false
set_option linter.unusedSimpArgs false
theorem FnAt.len4 {W : World} {S : Nat → Prop} {x : Fn} {cs : List Value} (h : FnAt W S x cs) : cs.length = 4 := by
  obtain ⟨p, q, vq, rfl, _⟩ := h
  rfl
theorem FnsAt.split {W : World} {S : Nat → Prop} : {l : List Fn} → {vs : List Value} → FnsAt W S l vs → (k : Nat) → k ≤ l.length → FnsAt W S (l.take k) (vs.take (4 * k)) ∧ FnsAt W S (l.drop k) (vs.drop (4 * k))
  | l, vs, h, 0, _ => by simpa [FnsAt] using h
  | [], vs, h, k + 1, hk => by simp at hk
  | x :: l, vs, h, k + 1, hk => by
    obtain ⟨cs, r, rfl, h1, h2⟩ := h
    have h4 := h1.len4
    obtain ⟨a1, a2⟩ := FnsAt.split h2 k (by simpa using hk)
    rw [show 4 * (k + 1) = cs.length + 4 * k by omega, List.take_length_add_append, List.drop_length_add_append]
    exact ⟨⟨cs, _, rfl, h1, a1⟩, a2⟩
theorem FnsAt.join {W : World} {S : Nat → Prop} : {l m : List Fn} → {vs us : List Value} → FnsAt W S l vs → FnsAt W S m us → FnsAt W S (l ++ m) (vs ++ us)
  | [], m, vs, us, h, h2 => by
    simp only [FnsAt] at h
    subst h
    exact h2
  | x :: l, m, vs, us, h, h2 => by
    obtain ⟨cs, r, rfl, h3, h4⟩ := h
    exact ⟨cs, r ++ us, by simp, h3, FnsAt.join h4 h2⟩
theorem FnsAt.len {W : World} {S : Nat → Prop} : {l : List Fn} → {vs : List Value} → FnsAt W S l vs → vs.length = 4 * l.length
  | [], vs, h => by
    simp only [FnsAt] at h
    subst h
    rfl
  | x :: l, vs, h => by
    obtain ⟨cs, r, rfl, h3, h4⟩ := h
    have := h3.len4
    have := FnsAt.len h4
    simp only [List.length_append, List.length_cons]
    omega
theorem FnsAt.one {W : World} {S : Nat → Prop} : {l : List Fn} → {vs : List Value} → FnsAt W S l vs → ∀ u ∈ vs, u.oneCell' = true
  | [], vs, h => by
    simp only [FnsAt] at h
    subst h
    exact fun u hu => nomatch hu
  | x :: l, vs, h => by
    obtain ⟨cs, r, rfl, h3, h4⟩ := h
    obtain ⟨oa, on, oc, ob, om, od, rfl⟩ := h3.shape
    intro u hu
    rcases List.mem_append.1 hu with hu | hu
    · simp only [List.mem_cons, List.not_mem_nil, or_false] at hu
      rcases hu with rfl | rfl | rfl | rfl <;> rfl
    · exact FnsAt.one h4 u hu
theorem FnsAt.get {W : World} {S : Nat → Prop} : {l : List Fn} → {vs : List Value} → FnsAt W S l vs → (i : Nat) → (x : Fn) → l[i]? = some x → ∃ cs, FnAt W S x cs ∧ ∀ j, j < 4 → vs[i * 4 + j]? = cs[j]?
  | [], vs, h, i, x, hx => by simp at hx
  | a :: l, vs, h, i, x, hx => by
    obtain ⟨cs, r, rfl, h1, h2⟩ := h
    have h4 := h1.len4
    cases i with
    | zero =>
      simp only [List.getElem?_cons_zero, Option.some.injEq] at hx
      subst hx
      refine ⟨cs, h1, fun j hj => ?_⟩
      rw [List.getElem?_append_left (by omega)]
      congr 1
      omega
    | succ i =>
      obtain ⟨ds, h3, h5⟩ := FnsAt.get h2 i x (by simpa using hx)
      refine ⟨ds, h3, fun j hj => ?_⟩
      rw [List.getElem?_append_right (by omega), h4, ← h5 j hj]
      congr 1
      omega
theorem fs_of_row {W : World} {S : Nat → Prop} {B : Nat} {v : Value} {l : List Fn} {vs : List Value} (h : W.ownsRow B 33 4 v l.length vs) (hf : FnsAt W S l vs) (hS : ∀ k, v.ownBlock = some k → ¬ S k) : FsAt W S v l := by
  rcases h.2 with ⟨rfl, h0⟩ | ⟨g, cap, cur, rfl, _, hg, h3, h4, _⟩
  · have hl : l = [] := List.eq_nil_of_length_eq_zero h0
    subst hl
    exact ⟨none, 0, 0, rfl, rfl, Nat.le_refl _, by decide, fun _ => rfl, fun i p hp => by simp at hp⟩
  · have hc := h.cells (g := g) rfl
    refine ⟨some ⟨g, 0, none⟩, l.length, cap, rfl, rfl, h3, h4, (fun h => by cases h), fun i x hx => ?_⟩
    obtain ⟨cs, h5, h6⟩ := hf.get i x hx
    obtain ⟨p, q, vq, rfl, h7, h8, h9⟩ := h5
    have e0 := hc _ _ (h6 0 (by omega))
    have e1 := hc _ _ (h6 1 (by omega))
    have e2 := hc _ _ (h6 2 (by omega))
    have e3 := hc _ _ (h6 3 (by omega))
    refine ⟨g, 0, p, q, vq, rfl, hS g rfl, ?_, ?_, ?_, ?_, h7, h8, h9⟩
    · simpa [Addr.add_lit] using e0
    · simpa [Addr.add_lit] using e1
    · simpa [Addr.add_lit] using e2
    · simpa [Addr.add_lit] using e3
theorem Prg.fs {W : World} {l : List Fn} {v : Value} (h : Prg W l v) : FsAt W None v l := by
  obtain ⟨vs, h1, h2⟩ := h
  exact fs_of_row h1.1 h2 (fun _ _ f => f)
/-- Whether something is found. -/
theorem check_out (L : List Fn) (v : Value) (W : World) (hL : FsAt W None v L) :
    Calls Tryz.prog 12 #[v] W fun e w => ((checkOk L ∧ e = .returned .nilIface) ∨ (¬ checkOk L ∧ ∃ t p, e = .returned (.iface t p))) ∧ Mods None W w := by
  refine (check_any L v W hL).mono ?_
  intro e w h
  have hi := checkOk_iff L
  have hr : checkR L = bindK (twiceK [] L) (fun _ => bindK (fnsK L L) fun _ => .ok (L.any mainB)) := rfl
  rw [← hr] at hi
  cases hx : checkR L with
  | error q =>
    obtain ⟨n, a⟩ := q
    rw [hx] at h hi
    obtain ⟨g, rfl, _, hm⟩ := h
    exact ⟨Or.inr ⟨(fun h => by cases hi.2 h), _, _, rfl⟩, hm⟩
  | ok b =>
    rw [hx] at h hi
    cases b
    · obtain ⟨rfl, hm⟩ := h
      exact ⟨Or.inr ⟨(fun h => by cases hi.2 h), _, _, rfl⟩, hm⟩
    · obtain ⟨rfl, hm⟩ := h
      exact ⟨Or.inl ⟨hi.1 rfl, rfl⟩, hm⟩
end Go.Proofs.YtdgedlhefjmcpaaGreatDoor.TreeP

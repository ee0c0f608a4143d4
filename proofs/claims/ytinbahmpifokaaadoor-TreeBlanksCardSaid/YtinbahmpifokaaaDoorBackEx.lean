/- What is spelled is read again, but for places: expressions. No program in sight. No conditions. What is spelled is read again, but for places: every expression. No program in sight. No conditions. -/
import Derived.Test.YtinbahmpifokaaaDoorBackMade
import Derived.Test.YtinbahmpifokaaaDoorTreeNum
namespace Go.Proofs.YtinbahmpifokaaaDoor.TreeP
set_option linter.unusedVariables false
set_option linter.unusedSimpArgs false
def key (t : Tok) : Int × List UInt8 := (t.kind, t.text)
def par (k : List (Int × List UInt8)) : List (Int × List UInt8) := (3, [40]) :: k ++ [(3, [41])]
def parK (lv : Nat) (e : Ex) (k : List (Int × List UInt8)) : List (Int × List UInt8) := if levelB e < lv then par k else k
mutual
def keysE : Ex → List (Int × List UInt8)
  | .num _ n => [(2, Lib.itoa n)]
  | .var _ s => [(1, s)]
  | .bin _ op l r => parK (lvlFrom levelList 0 op) l (keysE l) ++ (3, op) :: parK (lvlFrom levelList 0 op + 1) r (keysE r)
  | .un _ op x => (3, op) :: parK 6 x (keysE x)
  | .call _ f args => (1, f) :: (3, [40]) :: (keysA args ++ [(3, [41])])
  | .new _ x => (1, kNew) :: par (keysE x)
  | .len _ x => (1, kLen) :: par (keysE x)
  | .item _ x i => (if isUn x then par (keysE x) else parK 6 x (keysE x)) ++ (3, [91]) :: (keysE i ++ [(3, [93])])
  | .input _ => (1, kInput) :: par []
def keysA : List Ex → List (Int × List UInt8)
  | [] => []
  | e :: r => keysE e ++ (match r with | [] => [] | _ :: _ => (3, [44]) :: keysA r)
end
mutual
/-- Without places. -/
def stripE : Ex → Ex
  | .num _ n => .num 0 n
  | .var _ s => .var 0 s
  | .bin _ op l r => .bin 0 op (stripE l) (stripE r)
  | .un _ op x => .un 0 op (stripE x)
  | .call _ f args => .call 0 f (stripEs args)
  | .new _ x => .new 0 (stripE x)
  | .len _ x => .len 0 (stripE x)
  | .item _ x i => .item 0 (stripE x) (stripE i)
  | .input _ => .input 0
def stripEs : List Ex → List Ex
  | [] => []
  | e :: r => stripE e :: stripEs r
end
/-- With rounds enough it comes to this. -/
def Ev {α : Type} (F : Nat → PR α) (y : Except (Int × Int) (α × List Tok)) : Prop := ∃ f, ∀ g, f ≤ g → F g = some y
theorem Ev.step {α : Type} {F G : Nat → PR α} {y : Except (Int × Int) (α × List Tok)} (h : ∀ g, F (g + 1) = G g) (hG : Ev G y) : Ev F y := by
  obtain ⟨f, hf⟩ := hG
  refine ⟨f + 1, fun g hg => ?_⟩
  obtain ⟨g, rfl⟩ : ∃ k, g = k + 1 := ⟨g - 1, by omega⟩
  rw [h]
  exact hf g (by omega)
theorem Ev.bind {α β : Type} {P : Nat → PR α} {k : Nat → α → List Tok → PR β} {a : α} {R : List Tok} {y : Except (Int × Int) (β × List Tok)} (h : Ev P (.ok (a, R))) (hk : Ev (fun g => k g a R) y) : Ev (fun g => andThen (P g) (k g)) y := by
  obtain ⟨f1, h1⟩ := h
  obtain ⟨f2, h2⟩ := hk
  refine ⟨max f1 f2, fun g hg => ?_⟩
  simp only
  rw [h1 g (by omega)]
  exact h2 g (by omega)
theorem Ev.pure {α : Type} {F : Nat → PR α} {y : Except (Int × Int) (α × List Tok)} (h : ∀ g, F (g + 1) = some y) : Ev F y := ⟨1, fun g hg => by obtain ⟨g, rfl⟩ : ∃ k, g = k + 1 := ⟨g - 1, by omega⟩; exact h g⟩
theorem Ev.const {α : Type} {y : Except (Int × Int) (α × List Tok)} {x : PR α} (h : x = some y) : Ev (fun _ => x) y := ⟨0, fun _ _ => h⟩
theorem see_key {s : List UInt8} {t : Tok} {R : List Tok} : seeB s (t :: R) = (t.text == s && t.kind != 4) := rfl
theorem split_app {T : List Tok} {a b : List (Int × List UInt8)} (h : T.map key = a ++ b) : ∃ T1 T2, T = T1 ++ T2 ∧ T1.map key = a ∧ T2.map key = b := by
  obtain ⟨T1, T2, h1, h2, h3⟩ := List.map_eq_append_iff.1 h
  exact ⟨T1, T2, h1, h2, h3⟩
theorem split_cons {T : List Tok} {k : Int × List UInt8} {b : List (Int × List UInt8)} (h : T.map key = k :: b) : ∃ t T2, T = t :: T2 ∧ t.kind = k.1 ∧ t.text = k.2 ∧ T2.map key = b := by
  obtain ⟨t, T2, h1, h2, h3⟩ := List.map_eq_cons_iff.1 h
  exact ⟨t, T2, h1, congrArg Prod.fst h2, congrArg Prod.snd h2, h3⟩
theorem split_one {T : List Tok} {k : Int × List UInt8} (h : T.map key = [k]) : ∃ t, T = [t] ∧ t.kind = k.1 ∧ t.text = k.2 := by
  obtain ⟨t, T2, rfl, h1, h2, h3⟩ := split_cons h
  rw [List.map_eq_nil_iff] at h3
  subst h3
  exact ⟨t, rfl, h1, h2⟩
theorem must_see {s : List UInt8} {t : Tok} {R : List Tok} (h1 : t.text = s) (h2 : t.kind ≠ 4) : must s (t :: R) = some (.ok ((), R)) := by
  have hs : seeB s (t :: R) = true := by rw [see_key, h1]; simp [h2]
  unfold must
  rw [hs]
  rfl
def NoBr (R : List Tok) : Prop := seeB [91] R = false
def NoPar (R : List Tok) : Prop := seeB [40] R = false
def NoOp (lv : Nat) (R : List Tok) : Prop := ∀ k, lv ≤ k → k < 6 → opP k R = []
/-- What ends an expression. -/
def endB (s : List UInt8) : Prop := s = [41] ∨ s = [93] ∨ s = [44] ∨ s = [59]
theorem op_none {k : Nat} {t : Tok} {R : List Tok} (hk : k < 6) (h : t.text ∉ levelList.getD k []) : opP k (t :: R) = [] := by
  unfold opP
  cases hf : (levelList.getD k []).find? (fun m => seeB m (t :: R)) with
  | none => rfl
  | some m =>
    have h1 := List.mem_of_find?_eq_some hf
    have h2 : seeB m (t :: R) = true := List.find?_some (p := fun m => seeB m (t :: R)) hf
    rw [see_key, Bool.and_eq_true, beq_iff_eq] at h2
    rw [h2.1] at h
    exact absurd h1 h
theorem end_follow {t : Tok} {R : List Tok} (h : endB t.text) : NoBr (t :: R) ∧ NoPar (t :: R) ∧ NoOp 0 (t :: R) := by
  refine ⟨?_, ?_, ?_⟩
  · unfold NoBr; rw [see_key]; rcases h with h | h | h | h <;> rw [h] <;> rfl
  · unfold NoPar; rw [see_key]; rcases h with h | h | h | h <;> rw [h] <;> rfl
  · intro k _ hk
    apply op_none hk
    obtain rfl | rfl | rfl | rfl | rfl | rfl : k = 0 ∨ k = 1 ∨ k = 2 ∨ k = 3 ∨ k = 4 ∨ k = 5 := by omega
    all_goals rcases h with h | h | h | h <;> rw [h] <;> decide
theorem op_follow {t : Tok} {R : List Tok} {n : Nat} (hn : n < 6) (h : t.text ∈ levelList.getD n []) : NoBr (t :: R) ∧ NoPar (t :: R) ∧ NoOp (n + 1) (t :: R) := by
  have hne : (t.text == [91]) = false ∧ (t.text == [40]) = false := by
    obtain ⟨x, hx⟩ : ∃ x, x = t.text := ⟨_, rfl⟩
    rw [← hx] at h ⊢
    clear hx
    obtain rfl | rfl | rfl | rfl | rfl | rfl : n = 0 ∨ n = 1 ∨ n = 2 ∨ n = 3 ∨ n = 4 ∨ n = 5 := by omega
    all_goals
      simp only [levelList, List.getD_cons_zero, List.getD_cons_succ, List.mem_cons, List.not_mem_nil, or_false] at h
      rcases h with rfl | rfl | rfl | rfl <;> exact ⟨rfl, rfl⟩
  refine ⟨?_, ?_, ?_⟩
  · unfold NoBr
    rw [see_key, hne.1]
    rfl
  · unfold NoPar
    rw [see_key, hne.2]
    rfl
  · intro k hk1 hk
    apply op_none hk
    intro h2
    have e1 := level_of hn h
    have e2 := level_of hk h2
    omega
theorem op_some {t : Tok} {R : List Tok} {n : Nat} (hn : n < 6) (h : t.text ∈ levelList.getD n []) (h4 : t.kind ≠ 4) : opP n (t :: R) = t.text := by
  unfold opP
  cases hf : (levelList.getD n []).find? (fun m => seeB m (t :: R)) with
  | none =>
    rw [List.find?_eq_none] at hf
    have := hf _ h
    rw [see_key] at this
    simp [h4] at this
  | some m =>
    have h2 : seeB m (t :: R) = true := List.find?_some (p := fun m => seeB m (t :: R)) hf
    rw [see_key, Bool.and_eq_true, beq_iff_eq] at h2
    exact h2.1.symm
theorem op_nonempty {n : Nat} {s : List UInt8} (hn : n < 6) (h : s ∈ levelList.getD n []) : s ≠ [] := by
  obtain rfl | rfl | rfl | rfl | rfl | rfl : n = 0 ∨ n = 1 ∨ n = 2 ∨ n = 3 ∨ n = 4 ∨ n = 5 := by omega
  all_goals
    simp only [levelList, List.getD_cons_zero, List.getD_cons_succ, List.mem_cons, List.not_mem_nil, or_false] at h
    rcases h with rfl | rfl | rfl | rfl <;> decide
theorem climb {lv d : Nat} {ts R : List Tok} {e : Ex} (hl : lv < 6) (h : Ev (fun g => exprF g (lv + 1) d ts) (.ok (e, R))) {y : Except (Int × Int) (Ex × List Tok)} (hb : Ev (fun g => binF g lv d (headAt ts) e R) y) : Ev (fun g => exprF g lv d ts) y :=
  Ev.step (fun g => by simp only [exprF]; rw [if_neg (by omega)]) (Ev.bind (k := fun g x r => binF g lv d (headAt ts) x r) h hb)
theorem stay {lv d : Nat} {a : Int} {R : List Tok} {e : Ex} (h : opP lv R = []) : Ev (fun g => binF g lv d a e R) (.ok (e, R)) := Ev.pure fun g => by simp only [binF]; rw [if_pos h]; rfl
/-- From a level down to another, where no mark follows. -/
theorem down {d : Nat} {ts R : List Tok} {e : Ex} : (n lv : Nat) → lv + n ≤ 6 → Ev (fun g => exprF g (lv + n) d ts) (.ok (e, R)) → NoOp lv R → Ev (fun g => exprF g lv d ts) (.ok (e, R))
  | 0, lv, _, h, _ => h
  | n + 1, lv, hl, h, hn => climb (by omega) (down n (lv + 1) (by omega) (by rwa [show lv + 1 + n = lv + (n + 1) by omega]) (fun k h1 h2 => hn k (by omega) h2)) (stay (hn lv (Nat.le_refl _) (by omega)))
theorem six {d : Nat} {ts : List Tok} {y : Except (Int × Int) (Ex × List Tok)} (h : Ev (fun g => unaryF g d ts) y) : Ev (fun g => exprF g 6 d ts) y := Ev.step (fun g => by simp only [exprF, if_true]) h
theorem lvlFrom_le' : (L : List (List (List UInt8))) → (i : Nat) → (op : List UInt8) → lvlFrom L i op = 0 ∨ lvlFrom L i op < i + L.length
  | [], i, op => Or.inl rfl
  | l :: r, i, op => by
    simp only [lvlFrom]
    split
    · exact Or.inr (by simp)
    · rcases lvlFrom_le' r (i + 1) op with h | h
      · exact Or.inl h
      · exact Or.inr (by simp only [List.length_cons]; omega)
theorem levelB_le' (e : Ex) : levelB e ≤ 6 := by
  cases e <;> simp only [levelB] <;> try exact Nat.le_refl _
  rename_i op _ _
  have := lvlFrom_le' levelList 0 op
  have h6 : levelList.length = 6 := rfl
  omega
structure Back (e : Ex) : Prop where
  un : isUn e = true → ∀ d T R, Fit e d → T.map key = keysE e → NoBr R → NoPar R → ∃ e', stripE e' = stripE e ∧ Ev (fun g => unaryF g d (T ++ R)) (.ok (e', R))
  chain : isUn e = false → levelB e = 6 → ∀ d T R, Fit e d → T.map key = keysE e → NoPar R → ∃ e', stripE e' = stripE e ∧ ∀ y, Ev (fun g => itemF g d (headAt (T ++ R)) e' R) y → Ev (fun g => unaryF g d (T ++ R)) y
  bin : levelB e < 6 → ∀ d T R, Fit e d → T.map key = keysE e → NoBr R → NoPar R → NoOp (levelB e + 1) R → ∃ e', stripE e' = stripE e ∧ ∀ y, Ev (fun g => binF g (levelB e) d (headAt (T ++ R)) e' R) y → Ev (fun g => exprF g (levelB e) d (T ++ R)) y
theorem noitem {d : Nat} {a : Int} {R : List Tok} {e : Ex} (h : NoBr R) : Ev (fun g => itemF g d a e R) (.ok (e, R)) := Ev.pure fun g => by simp only [itemF]; rw [if_neg (by rw [h]; simp)]; rfl
/-- At the last level. -/
theorem Back.last {e : Ex} (h : Back e) (h6 : levelB e = 6) {d : Nat} {T R : List Tok} (hf : Fit e d) (hT : T.map key = keysE e) (h1 : NoBr R) (h2 : NoPar R) : ∃ e', stripE e' = stripE e ∧ Ev (fun g => unaryF g d (T ++ R)) (.ok (e', R)) := by
  cases hu : isUn e
  · obtain ⟨e', hs, hy⟩ := h.chain hu h6 d T R hf hT h2
    exact ⟨e', hs, hy _ (noitem h1)⟩
  · exact h.un hu d T R hf hT h1 h2
/-- At any level that it holds together. -/
theorem Back.at_ {e : Ex} (h : Back e) {lv d : Nat} {T R : List Tok} (hlv : lv ≤ levelB e) (hf : Fit e d) (hT : T.map key = keysE e) (h1 : NoBr R) (h2 : NoPar R) (h3 : NoOp lv R) : ∃ e', stripE e' = stripE e ∧ Ev (fun g => exprF g lv d (T ++ R)) (.ok (e', R)) := by
  have h6 := levelB_le' e
  by_cases hl : levelB e < 6
  · obtain ⟨e', hs, hy⟩ := h.bin hl d T R hf hT h1 h2 (fun k a b => h3 k (by omega) b)
    refine ⟨e', hs, down (levelB e - lv) lv (by omega) ?_ h3⟩
    rw [show lv + (levelB e - lv) = levelB e by omega]
    exact hy _ (stay (h3 _ hlv hl))
  · obtain ⟨e', hs, hy⟩ := h.last (by omega) hf hT h1 h2
    refine ⟨e', hs, down (6 - lv) lv (by omega) ?_ h3⟩
    rw [show lv + (6 - lv) = 6 by omega]
    exact six hy
/-- The same, and what follows may be a mark of the level. -/
theorem Back.left {e : Ex} (h : Back e) {lv d : Nat} {T R : List Tok} (hl6 : lv < 6) (hlv : lv ≤ levelB e) (hf : Fit e d) (hT : T.map key = keysE e) (h1 : NoBr R) (h2 : NoPar R) (h3 : NoOp (lv + 1) R) : ∃ e', stripE e' = stripE e ∧ ∀ y, Ev (fun g => binF g lv d (headAt (T ++ R)) e' R) y → Ev (fun g => exprF g lv d (T ++ R)) y := by
  by_cases he : lv = levelB e
  · subst he
    exact h.bin hl6 d T R hf hT h1 h2 h3
  · obtain ⟨e', hs, hy⟩ := h.at_ (lv := lv + 1) (by omega) hf hT h1 h2 h3
    exact ⟨e', hs, fun y hb => climb hl6 hy hb⟩
end Go.Proofs.YtinbahmpifokaaaDoor.TreeP
namespace Go.Proofs.YtinbahmpifokaaaDoor.TreeP
set_option linter.unusedVariables false
set_option linter.unusedSimpArgs false
theorem Ev.ok {α : Type} {a : α} {R : List Tok} : Ev (fun _ => okP a R) (.ok (a, R)) := ⟨0, fun _ _ => rfl⟩
theorem foldN_append (acc : Nat) (l r : List UInt8) : foldN acc (l ++ r) = foldN (foldN acc l) r := List.foldl_append
theorem dig_to (i : Nat) (h : i < 10) : (UInt8.ofNat (48 + i)).toNat = 48 + i := by
  rw [UInt8.toNat_ofNat', Nat.mod_eq_of_lt (by omega)]
theorem dec_digits (u : Nat) : (Lib.decDigits u).all digitB = true ∧ Lib.decDigits u ≠ [] ∧ numP (Lib.decDigits u) = u := by
  induction u using Nat.strongRecOn with
  | _ u ih =>
    rw [Lib.decDigits]
    by_cases h : u < 10
    · rw [dif_pos h]
      have := dig_to u h
      refine ⟨?_, by simp, ?_⟩
      · simp only [List.all_cons, List.all_nil, Bool.and_true, digitB, Bool.and_eq_true, decide_eq_true_eq]
        omega
      · rw [numP_eq]
        simp only [foldN, List.foldl_cons, List.foldl_nil]
        omega
    · rw [dif_neg h]
      obtain ⟨h1, h2, h3⟩ := ih (u / 10) (by omega)
      have := dig_to (u % 10) (by omega)
      refine ⟨?_, by simp, ?_⟩
      · simp only [List.all_append, h1, List.all_cons, List.all_nil, Bool.and_true, Bool.true_and, digitB, Bool.and_eq_true, decide_eq_true_eq]
        omega
      · rw [numP_eq] at h3 ⊢
        rw [foldN_append, h3]
        simp only [foldN, List.foldl_cons, List.foldl_nil]
        omega
theorem itoa_digits {n : Int} (h : 0 ≤ n) : (Lib.itoa n).all digitB = true ∧ Lib.itoa n ≠ [] ∧ (numP (Lib.itoa n) : Int) = n := by
  have hi : Lib.itoa n = Lib.decDigits n.toNat := by unfold Lib.itoa; rw [if_neg (by omega)]
  obtain ⟨h1, h2, h3⟩ := dec_digits n.toNat
  rw [hi]
  exact ⟨h1, h2, by rw [h3]; omega⟩
/-- A text that begins with no letter is no name, and a kept word is none. -/
theorem name_not {s m : List UInt8} (h : NameOk s) (hm : (∃ c r, m = c :: r ∧ letterB c = false) ∨ keptB m = true) : (s == m) = false := by
  obtain ⟨⟨c, r, hc, hl⟩, _, hk, _⟩ := h
  rw [beq_eq_false_iff_ne]
  rintro rfl
  rcases hm with ⟨c', r', h1, h2⟩ | h1
  · rw [hc] at h1
    obtain ⟨rfl, rfl⟩ := List.cons.inj h1
    rw [hl] at h2
    cases h2
  · rw [hk] at h1
    cases h1
theorem see_name {s m : List UInt8} {t : Tok} {R : List Tok} (h : NameOk s) (ht : t.text = s) (hm : (∃ c r, m = c :: r ∧ letterB c = false) ∨ keptB m = true) : seeB m (t :: R) = false := by
  rw [see_key, ht, name_not h hm]
  rfl
theorem name_take {s : List UInt8} {t : Tok} {R : List Tok} (h : NameOk s) (ht : t.text = s) (hk : t.kind = 1) : nameP (t :: R) = some (.ok (s, R)) := by
  have h1 : headKind (t :: R) = 1 := hk
  have h2 : headText (t :: R) = s := ht
  unfold nameP
  rw [h1, h2, h.2.2.1, if_neg (by simp), if_neg (by have := h.2.2.2; omega)]
  rfl
/-- An expression's first token. -/
theorem head_key : (e : Ex) → (d : Nat) → Fit e d → ∃ k r, keysE e = k :: r ∧ k.2 ≠ [41] ∧ k.2 ≠ [] ∧ k.1 ≠ 4
  | .num _ n, d, h => by
    simp only [Fit] at h
    obtain ⟨h1, h2, h3⟩ := itoa_digits h.2.1
    refine ⟨_, _, rfl, ?_, h2, by simp⟩
    intro hc
    simp only at hc
    rw [hc] at h1
    cases h1
  | .var _ s, d, h => by
    simp only [Fit] at h
    obtain ⟨⟨c, r, hc, hl⟩, _⟩ := h.2
    subst hc
    refine ⟨_, _, rfl, ?_, by simp, by simp⟩
    rintro ⟨⟩
    cases hl
  | .bin _ op l r, d, h => by
    simp only [Fit] at h
    simp only [keysE, parK]
    split
    · exact ⟨_, _, rfl, by simp, by simp, by simp⟩
    · rename_i hc
      have h2 := h.2.1
      rw [if_neg hc] at h2
      obtain ⟨k, q, h3, h4⟩ := head_key l d h2
      rw [h3]
      exact ⟨_, _, rfl, h4⟩
  | .un _ op x, d, h => by
    simp only [Fit] at h
    rcases h.2.1 with rfl | rfl <;> exact ⟨_, _, rfl, by simp, by simp, by simp⟩
  | .call _ f args, d, h => by
    simp only [Fit] at h
    obtain ⟨⟨c, r, hc, hl⟩, _⟩ := h.2.1
    subst hc
    refine ⟨_, _, rfl, ?_, by simp, by simp⟩
    rintro ⟨⟩
    cases hl
  | .new _ x, d, h => ⟨_, _, rfl, by simp [kNew], by simp [kNew], by simp⟩
  | .len _ x, d, h => ⟨_, _, rfl, by simp [kLen], by simp [kLen], by simp⟩
  | .item _ x i, d, h => by
    simp only [Fit] at h
    simp only [keysE, parK]
    split
    · exact ⟨_, _, rfl, by simp, by simp, by simp⟩
    · rename_i hu
      have h2 := h.2.1
      rw [if_neg hu] at h2
      split
      · exact ⟨_, _, rfl, by simp, by simp, by simp⟩
      · rename_i hc
        rw [if_neg hc] at h2
        obtain ⟨k, q, h3, h4⟩ := head_key x d h2
        rw [h3]
        exact ⟨_, _, rfl, h4⟩
  | .input _, d, h => ⟨_, _, rfl, by simp [kInput], by simp [kInput], by simp⟩
theorem close_follow {t : Tok} {R : List Tok} (h : t.text = [41]) : NoBr (t :: R) ∧ NoPar (t :: R) ∧ NoOp 0 (t :: R) := end_follow (Or.inl h)
theorem see_no {s m : List UInt8} {t : Tok} {R : List Tok} (ht : t.text = s) (h : (s == m) = false) : seeB m (t :: R) = false := by
  rw [see_key, ht, h]
  rfl
theorem see_yes {s : List UInt8} {t : Tok} {R : List Tok} (ht : t.text = s) (h : t.kind ≠ 4) : seeB s (t :: R) = true := by
  rw [see_key, ht]
  simp [h]
section eqs
variable {g d : Nat} {t : Tok} {R : List Tok}
theorem firstb_num (hk : t.kind = 2) (hn : numP t.text < 9223372036854775808) : firstF (g + 1) d (t :: R) = okP (.num t.at_ (numP t.text)) R := by
  simp only [firstF]
  rw [if_pos (show headKind (t :: R) = 2 from hk), if_pos (show numP (headText (t :: R)) < _ from hn)]
  rfl
theorem firstb_bracket (hk : t.kind = 3) (hx : t.text = [40]) : firstF (g + 1) d (t :: R) = aloneF g d (t :: R) := by
  have h2 : headKind (t :: R) = 3 := hk
  simp only [firstF]
  rw [if_neg (by rw [h2]; omega), see_yes hx (by omega)]
  rfl
theorem firstb_new (hk : t.kind = 1) (hx : t.text = kNew) : firstF (g + 1) d (t :: R) = andThen (aloneF g d R) fun x r => okP (.new t.at_ x) r := by
  have h2 : headKind (t :: R) = 1 := hk
  simp only [firstF]
  rw [if_neg (by rw [h2]; omega), see_no (m := [40]) hx rfl, see_yes (s := kNew) hx (by omega)]
  rfl
theorem firstb_len (hk : t.kind = 1) (hx : t.text = kLen) : firstF (g + 1) d (t :: R) = andThen (aloneF g d R) fun x r => okP (.len t.at_ x) r := by
  have h2 : headKind (t :: R) = 1 := hk
  simp only [firstF]
  rw [if_neg (by rw [h2]; omega), see_no (m := [40]) hx rfl, see_no (m := kNew) hx rfl, see_yes (s := kLen) hx (by omega)]
  rfl
theorem firstb_input (hk : t.kind = 1) (hx : t.text = kInput) : firstF (g + 1) d (t :: R) = andThen (must [40] R) fun _ r => andThen (must [41] r) fun _ r2 => okP (.input t.at_) r2 := by
  have h2 : headKind (t :: R) = 1 := hk
  simp only [firstF]
  rw [if_neg (by rw [h2]; omega), see_no (m := [40]) hx rfl, see_no (m := kNew) hx rfl, see_no (m := kLen) hx rfl, see_yes (s := kInput) hx (by omega)]
  rfl
theorem firstb_name {s : List UInt8} (h : NameOk s) (hk : t.kind = 1) (hx : t.text = s) : firstF (g + 1) d (t :: R) = if seeB [40] R then andThen (argsF g d R) fun l r2 => okP (.call t.at_ s l) r2 else okP (.var t.at_ s) R := by
  have h2 : headKind (t :: R) = 1 := hk
  simp only [firstF]
  rw [if_neg (by rw [h2]; omega), see_name (m := [40]) h hx (Or.inl ⟨_, _, rfl, rfl⟩), see_name (m := kNew) h hx (Or.inr rfl), see_name (m := kLen) h hx (Or.inr rfl), see_name (m := kInput) h hx (Or.inr rfl), name_take h hx hk]
  rfl
theorem alone_eq (hk : t.kind = 3) (hx : t.text = [40]) : aloneF (g + 1) d (t :: R) = andThen (exprF g 0 (d + 1) R) fun x r2 => andThen (must [41] r2) fun _ r3 => okP x r3 := by
  simp only [aloneF]
  rw [must_see hx (by omega)]
  rfl
theorem args_eq (hk : t.kind = 3) (hx : t.text = [40]) : argsF (g + 1) d (t :: R) = restF g d true [] R := by
  simp only [argsF]
  rw [must_see hx (by omega)]
  rfl
theorem rest_end {b : Bool} {l : List Ex} (hk : t.kind = 3) (hx : t.text = [41]) : restF (g + 1) d b l (t :: R) = okP l R := by
  simp only [restF]
  rw [see_yes hx (by omega)]
  rfl
theorem rest_comma {l : List Ex} (hk : t.kind = 3) (hx : t.text = [44]) : restF (g + 1) d false l (t :: R) = andThen (exprF g 0 (d + 1) R) fun x r2 => restF g d false (l ++ [x]) r2 := by
  simp only [restF]
  rw [see_no (m := [41]) hx rfl, if_neg (by simp), if_neg (by simp), must_see hx (by omega)]
  rfl
theorem rest_first {l : List Ex} {ts : List Tok} (h : seeB [41] ts = false) : restF (g + 1) d true l ts = andThen (exprF g 0 (d + 1) ts) fun x r2 => restF g d false (l ++ [x]) r2 := by
  simp only [restF]
  rw [h]
  rfl
theorem un_eq {op : List UInt8} (ho : op = [45] ∨ op = [33]) (hd : d ≤ 12) (hk : t.kind = 3) (hx : t.text = op) : unaryF (g + 1) d (t :: R) = andThen (unaryF g (d + 1) R) fun x r => okP (.un t.at_ op x) r := by
  simp only [unaryF]
  rw [if_neg (by omega)]
  rcases ho with rfl | rfl
  · rw [see_yes hx (by omega)]
    rfl
  · rw [see_no (m := [45]) hx rfl, see_yes hx (by omega)]
    rfl
theorem item_eq {a : Int} {x : Ex} (hk : t.kind = 3) (hx : t.text = [91]) : itemF (g + 1) d a x (t :: R) = andThen (exprF g 0 (d + 1) R) fun i r => andThen (must [93] r) fun _ r2 => itemF g d a (.item a x i) r2 := by
  simp only [itemF]
  rw [see_yes hx (by omega)]
  rfl
theorem bin_eq {a : Int} {x : Ex} {n : Nat} {op : List UInt8} (hn : n < 6) (hm : op ∈ levelList.getD n []) (hk : t.kind = 3) (hx : t.text = op) : binF (g + 1) n d a x (t :: R) = andThen (exprF g (n + 1) d R) fun y r => binF g n d a (.bin a op x y) r := by
  subst hx
  have ho := op_some (R := R) hn hm (by omega)
  have hne := op_nonempty hn hm
  simp only [binF]
  rw [ho, if_neg hne]
  rfl
end eqs
/-- In brackets. -/
theorem Back.alone {e : Ex} (h : Back e) {d : Nat} {T R : List Tok} (hf : Fit e (d + 1)) (hT : T.map key = par (keysE e)) : ∃ e', stripE e' = stripE e ∧ Ev (fun g => aloneF g d (T ++ R)) (.ok (e', R)) := by
  unfold par at hT
  rw [List.cons_append] at hT
  obtain ⟨t1, T1, rfl, k1, x1, hT⟩ := split_cons hT
  obtain ⟨T2, T3, rfl, hT2, hT3⟩ := split_app hT
  obtain ⟨t3, rfl, k3, x3⟩ := split_one hT3
  simp only at k1 x1 k3 x3
  obtain ⟨c1, c2, c3⟩ := close_follow (R := R) x3
  obtain ⟨e', hs, he⟩ := h.at_ (lv := 0) (R := t3 :: R) (Nat.zero_le _) hf hT2 c1 c2 c3
  rw [List.cons_append, List.append_assoc, List.singleton_append]
  refine ⟨e', hs, Ev.step (fun g => alone_eq k1 x1) (Ev.bind (k := fun g x r2 => andThen (must [41] r2) fun _ r3 => okP x r3) he (Ev.const ?_))⟩
  rw [must_see (R := R) x3 (by omega)]
  rfl
/-- Behind what stands first, items. -/
theorem first_chain {d : Nat} {ts R : List Tok} {e : Ex} (hd : d ≤ 12) (h1 : seeB [45] ts = false) (h2 : seeB [33] ts = false) (h : Ev (fun g => firstF g d ts) (.ok (e, R))) {y : Except (Int × Int) (Ex × List Tok)} (hy : Ev (fun g => itemF g d (headAt ts) e R) y) : Ev (fun g => unaryF g d ts) y :=
  Ev.step (fun g => by simp only [unaryF]; rw [if_neg (by omega), if_neg (by rw [h1]; simp), if_neg (by rw [h2]; simp)]) (Ev.bind (k := fun g x r => itemF g d (headAt ts) x r) h hy)
theorem Back.parChain {e : Ex} (h : Back e) {d : Nat} {T R : List Tok} (hd : d ≤ 12) (hf : Fit e (d + 1)) (hT : T.map key = par (keysE e)) : ∃ e', stripE e' = stripE e ∧ ∀ y, Ev (fun g => itemF g d (headAt (T ++ R)) e' R) y → Ev (fun g => unaryF g d (T ++ R)) y := by
  obtain ⟨e', hs, he⟩ := h.alone (R := R) hf hT
  refine ⟨e', hs, fun y hy => ?_⟩
  unfold par at hT
  rw [List.cons_append] at hT
  obtain ⟨t1, T1, rfl, k1, x1, hT⟩ := split_cons hT
  simp only at k1 x1
  rw [List.cons_append] at he hy ⊢
  exact first_chain hd (see_no x1 rfl) (see_no x1 rfl) (Ev.step (fun g => firstb_bracket k1 x1) he) hy
/-- Where the last level may stand. -/
theorem Back.opU {e : Ex} (h : Back e) {d : Nat} {T R : List Tok} (hf : if levelB e < 6 then d ≤ 12 ∧ Fit e (d + 1) else Fit e d) (hT : T.map key = parK 6 e (keysE e)) (h1 : NoBr R) (h2 : NoPar R) : ∃ e', stripE e' = stripE e ∧ Ev (fun g => unaryF g d (T ++ R)) (.ok (e', R)) := by
  unfold parK at hT
  split at hf
  · rename_i hc
    rw [if_pos hc] at hT
    obtain ⟨e', hs, he⟩ := h.parChain (R := R) hf.1 hf.2 hT
    exact ⟨e', hs, he _ (noitem h1)⟩
  · rename_i hc
    rw [if_neg hc] at hT
    have := levelB_le' e
    exact h.last (by omega) hf hT h1 h2
/-- Where a level may stand. -/
theorem Back.opAt {e : Ex} (h : Back e) {lv d : Nat} {T R : List Tok} (hl : lv ≤ 6) (hf : if levelB e < lv then d ≤ 12 ∧ Fit e (d + 1) else Fit e d) (hT : T.map key = parK lv e (keysE e)) (h1 : NoBr R) (h2 : NoPar R) (h3 : NoOp lv R) : ∃ e', stripE e' = stripE e ∧ Ev (fun g => exprF g lv d (T ++ R)) (.ok (e', R)) := by
  unfold parK at hT
  split at hf
  · rename_i hc
    rw [if_pos hc] at hT
    obtain ⟨e', hs, he⟩ := h.parChain (R := R) hf.1 hf.2 hT
    refine ⟨e', hs, down (6 - lv) lv (by omega) ?_ h3⟩
    rw [show lv + (6 - lv) = 6 by omega]
    exact six (he _ (noitem h1))
  · rename_i hc
    rw [if_neg hc] at hT
    exact h.at_ (by omega) hf hT h1 h2 h3
/-- At the left of a mark. -/
theorem Back.opL {e : Ex} (h : Back e) {lv d : Nat} {T R : List Tok} (hl : lv < 6) (hf : if levelB e < lv then d ≤ 12 ∧ Fit e (d + 1) else Fit e d) (hT : T.map key = parK lv e (keysE e)) (h1 : NoBr R) (h2 : NoPar R) (h3 : NoOp (lv + 1) R) : ∃ e', stripE e' = stripE e ∧ ∀ y, Ev (fun g => binF g lv d (headAt (T ++ R)) e' R) y → Ev (fun g => exprF g lv d (T ++ R)) y := by
  unfold parK at hT
  split at hf
  · rename_i hc
    rw [if_pos hc] at hT
    obtain ⟨e', hs, he⟩ := h.parChain (R := R) hf.1 hf.2 hT
    refine ⟨e', hs, fun y hy => climb hl (down (6 - (lv + 1)) (lv + 1) (by omega) ?_ h3) hy⟩
    rw [show lv + 1 + (6 - (lv + 1)) = 6 by omega]
    exact six (he _ (noitem h1))
  · rename_i hc
    rw [if_neg hc] at hT
    exact h.left hl (by omega) hf hT h1 h2 h3
def keysB (l : List Ex) : List (Int × List UInt8) := match l with | [] => [] | _ :: _ => (3, [44]) :: keysA l
theorem keysA_cons (e : Ex) (r : List Ex) : keysA (e :: r) = keysE e ++ keysB r := by
  simp only [keysA]
  cases r <;> rfl
def Backs (l : List Ex) : Prop := ∀ (d : Nat) (T : List Tok) (t : Tok) (R : List Tok) (acc : List Ex), Fits l (d + 1) → d ≤ 12 → T.map key = keysB l → t.text = [41] → t.kind = 3 → ∃ l', stripEs l' = stripEs l ∧ Ev (fun g => restF g d false acc (T ++ t :: R)) (.ok (acc ++ l', R))
theorem follow_B {l : List Ex} {T : List Tok} {t : Tok} {R : List Tok} (hT : T.map key = keysB l) (ht : t.text = [41]) : NoBr (T ++ t :: R) ∧ NoPar (T ++ t :: R) ∧ NoOp 0 (T ++ t :: R) := by
  cases l with
  | nil =>
    rw [show T = [] from List.map_eq_nil_iff.1 hT]
    exact close_follow ht
  | cons e r =>
    obtain ⟨t1, T1, rfl, k1, x1, hT⟩ := split_cons (show T.map key = (3, [44]) :: keysA (e :: r) from hT)
    exact end_follow (Or.inr (Or.inr (Or.inl x1)))
/-- One argument, and those behind it. -/
theorem rest_one {e : Ex} {r : List Ex} (he : Back e) (hr : Backs r) {d : Nat} {T : List Tok} {t : Tok} {R : List Tok} {acc : List Ex} (hf : Fits (e :: r) (d + 1)) (hd : d ≤ 12) (hT : T.map key = keysA (e :: r)) (ht : t.text = [41]) (hk : t.kind = 3) : ∃ l', stripEs l' = stripEs (e :: r) ∧ Ev (fun g => andThen (exprF g 0 (d + 1) (T ++ t :: R)) fun x r2 => restF g d false (acc ++ [x]) r2) (.ok (acc ++ l', R)) := by
  rw [keysA_cons] at hT
  simp only [Fits] at hf
  obtain ⟨T1, T2, rfl, hT1, hT2⟩ := split_app hT
  obtain ⟨c1, c2, c3⟩ := follow_B (R := R) hT2 ht
  obtain ⟨e', hs, h1⟩ := he.at_ (lv := 0) (R := T2 ++ t :: R) (Nat.zero_le _) hf.1 hT1 c1 c2 c3
  obtain ⟨l', hs2, h2⟩ := hr d T2 t R (acc ++ [e']) hf.2 hd hT2 ht hk
  refine ⟨e' :: l', by simp only [stripEs, hs, hs2], ?_⟩
  rw [List.append_assoc]
  refine Ev.bind (k := fun g x r2 => restF g d false (acc ++ [x]) r2) h1 ?_
  rw [show acc ++ e' :: l' = acc ++ [e'] ++ l' by simp]
  exact h2
theorem args_read {l : List Ex} (hb : match l with | [] => True | e :: r => Back e ∧ Backs r) {d : Nat} {T R : List Tok} (hf : Fits l (d + 1)) (hd : d ≤ 12) (hT : T.map key = (3, [40]) :: (keysA l ++ [(3, [41])])) : ∃ l', stripEs l' = stripEs l ∧ Ev (fun g => argsF g d (T ++ R)) (.ok (l', R)) := by
  obtain ⟨t1, T1, rfl, k1, x1, hT⟩ := split_cons hT
  obtain ⟨T2, T3, rfl, hT2, hT3⟩ := split_app hT
  obtain ⟨t3, rfl, k3, x3⟩ := split_one hT3
  simp only at k1 x1 k3 x3
  rw [List.cons_append, List.append_assoc, List.singleton_append]
  cases l with
  | nil =>
    rw [show T2 = [] from List.map_eq_nil_iff.1 hT2]
    exact ⟨[], rfl, Ev.step (fun g => args_eq k1 x1) (Ev.pure fun g => rest_end k3 x3)⟩
  | cons e r =>
    obtain ⟨l', hs, h⟩ := rest_one (acc := []) (R := R) hb.1 hb.2 hf hd hT2 x3 k3
    refine ⟨l', hs, Ev.step (fun g => args_eq k1 x1) (Ev.step (fun g => rest_first ?_) h)⟩
    simp only [Fits] at hf
    obtain ⟨k, q, hkq, hne, _, _⟩ := head_key e _ hf.1
    rw [keysA_cons, hkq, List.cons_append] at hT2
    obtain ⟨t4, T4, rfl, k4, x4, _⟩ := split_cons hT2
    exact see_no x4 (by rw [beq_eq_false_iff_ne]; exact hne)
mutual
theorem back : (e : Ex) → Back e
  | .num a n => by
    refine ⟨fun h => by simp [isUn] at h, ?_, fun h => by simp [levelB] at h⟩
    intro _ _ d T R hf hT h2
    simp only [keysE] at hT
    simp only [Fit] at hf
    obtain ⟨t, rfl, k1, x1⟩ := split_one hT
    simp only at k1 x1
    obtain ⟨i1, i2, i3⟩ := itoa_digits hf.2.1
    rw [List.singleton_append]
    refine ⟨.num t.at_ (numP t.text), by simp only [stripE, x1, i3], fun y hy => first_chain hf.1 ?_ ?_ (Ev.pure fun g => firstb_num k1 (by rw [x1]; omega)) hy⟩
    · refine see_no x1 (beq_eq_false_iff_ne.2 ?_)
      intro hc
      rw [hc] at i1
      cases i1
    · refine see_no x1 (beq_eq_false_iff_ne.2 ?_)
      intro hc
      rw [hc] at i1
      cases i1
  | .var a s => by
    refine ⟨fun h => by simp [isUn] at h, ?_, fun h => by simp [levelB] at h⟩
    intro _ _ d T R hf hT h2
    simp only [keysE] at hT
    simp only [Fit] at hf
    obtain ⟨t, rfl, k1, x1⟩ := split_one hT
    simp only at k1 x1
    rw [List.singleton_append]
    exact ⟨.var t.at_ s, by simp only [stripE], fun y hy => first_chain hf.1 (see_name hf.2 x1 (Or.inl ⟨_, _, rfl, rfl⟩)) (see_name hf.2 x1 (Or.inl ⟨_, _, rfl, rfl⟩)) (Ev.pure fun g => by rw [firstb_name hf.2 k1 x1, show seeB [40] R = false from h2]; rfl) hy⟩
  | .bin a op l r => by
    refine ⟨fun h => by simp [isUn] at h, ?_, ?_⟩
    · intro _ h d T R hf
      simp only [Fit] at hf
      obtain ⟨k, hk, hm⟩ := hf.1
      simp only [levelB] at h
      rw [level_of hk hm] at h
      omega
    · intro hlt d T R hf hT h1 h2 h3
      simp only [Fit] at hf
      obtain ⟨⟨k, hk, hm⟩, fl, fr⟩ := hf
      simp only [keysE] at hT
      simp only [levelB] at h3 ⊢
      rw [level_of hk hm] at fl fr hT h3 ⊢
      obtain ⟨TL, T2, rfl, hTL, hT⟩ := split_app hT
      obtain ⟨t, TR, rfl, kt, xt, hTR⟩ := split_cons hT
      simp only at kt xt
      obtain ⟨c1, c2, c3⟩ := op_follow (t := t) (R := TR ++ R) hk (by rw [xt]; exact hm)
      obtain ⟨l', hsl, hl⟩ := (back l).opL (R := t :: (TR ++ R)) hk fl hTL c1 c2 c3
      obtain ⟨r', hsr, hr⟩ := (back r).opAt (R := R) (by omega) fr hTR h1 h2 h3
      rw [List.append_assoc, List.cons_append]
      exact ⟨.bin (headAt (TL ++ t :: (TR ++ R))) op l' r', by simp only [stripE, hsl, hsr], fun y hy => hl y (Ev.step (fun g => bin_eq hk hm kt xt) (Ev.bind (k := fun g y r => binF g k d (headAt (TL ++ t :: (TR ++ R))) (.bin (headAt (TL ++ t :: (TR ++ R))) op l' y) r) hr hy))⟩
  | .un a op x => by
    refine ⟨?_, fun h => by simp [isUn] at h, fun h => by simp [levelB] at h⟩
    intro _ d T R hf hT h1 h2
    simp only [Fit] at hf
    simp only [keysE] at hT
    obtain ⟨t, T1, rfl, kt, xt, hT1⟩ := split_cons hT
    simp only at kt xt
    obtain ⟨x', hs, hx⟩ := (back x).opU (R := R) hf.2.2 hT1 h1 h2
    rw [List.cons_append]
    exact ⟨.un t.at_ op x', by simp only [stripE, hs], Ev.step (fun g => un_eq hf.2.1 hf.1 kt xt) (Ev.bind (k := fun g x r => okP (Ex.un t.at_ op x) r) hx Ev.ok)⟩
  | .call a f args => by
    refine ⟨fun h => by simp [isUn] at h, ?_, fun h => by simp [levelB] at h⟩
    intro _ _ d T R hf hT h2
    simp only [keysE] at hT
    simp only [Fit] at hf
    obtain ⟨t, T1, rfl, k1, x1, hT1⟩ := split_cons hT
    simp only at k1 x1
    obtain ⟨l', hs, hl⟩ := args_read (R := R) (backs_ args) hf.2.2 hf.1 hT1
    obtain ⟨t2, T2, rfl, k2, x2, _⟩ := split_cons hT1
    simp only at k2 x2
    rw [List.cons_append] at hl ⊢
    rw [List.cons_append]
    exact ⟨.call t.at_ f l', by simp only [stripE, hs], fun y hy => first_chain hf.1 (see_name hf.2.1 x1 (Or.inl ⟨_, _, rfl, rfl⟩)) (see_name hf.2.1 x1 (Or.inl ⟨_, _, rfl, rfl⟩)) (Ev.step (fun g => by rw [firstb_name hf.2.1 k1 x1, see_yes x2 (by omega), if_pos rfl]) (Ev.bind (k := fun g l r2 => okP (Ex.call t.at_ f l) r2) hl Ev.ok)) hy⟩
  | .new a x => by
    refine ⟨fun h => by simp [isUn] at h, ?_, fun h => by simp [levelB] at h⟩
    intro _ _ d T R hf hT h2
    simp only [keysE] at hT
    simp only [Fit] at hf
    obtain ⟨t, T1, rfl, k1, x1, hT1⟩ := split_cons hT
    simp only at k1 x1
    obtain ⟨x', hs, hx⟩ := (back x).alone (R := R) hf.2 hT1
    rw [List.cons_append]
    exact ⟨.new t.at_ x', by simp only [stripE, hs], fun y hy => first_chain hf.1 (see_no x1 rfl) (see_no x1 rfl) (Ev.step (fun g => firstb_new k1 x1) (Ev.bind (k := fun g x r2 => okP (Ex.new t.at_ x) r2) hx Ev.ok)) hy⟩
  | .len a x => by
    refine ⟨fun h => by simp [isUn] at h, ?_, fun h => by simp [levelB] at h⟩
    intro _ _ d T R hf hT h2
    simp only [keysE] at hT
    simp only [Fit] at hf
    obtain ⟨t, T1, rfl, k1, x1, hT1⟩ := split_cons hT
    simp only at k1 x1
    obtain ⟨x', hs, hx⟩ := (back x).alone (R := R) hf.2 hT1
    rw [List.cons_append]
    exact ⟨.len t.at_ x', by simp only [stripE, hs], fun y hy => first_chain hf.1 (see_no x1 rfl) (see_no x1 rfl) (Ev.step (fun g => firstb_len k1 x1) (Ev.bind (k := fun g x r2 => okP (Ex.len t.at_ x) r2) hx Ev.ok)) hy⟩
  | .item a x i => by
    refine ⟨fun h => by simp [isUn] at h, ?_, fun h => by simp [levelB] at h⟩
    intro _ _ d T R hf hT h2
    simp only [keysE] at hT
    simp only [Fit] at hf
    obtain ⟨TX, T2, rfl, hTX, hT⟩ := split_app hT
    obtain ⟨t, T3, rfl, kt, xt, hT⟩ := split_cons hT
    obtain ⟨TI, T4, rfl, hTI, hT⟩ := split_app hT
    obtain ⟨t4, rfl, k4, x4⟩ := split_one hT
    simp only at kt xt k4 x4
    have hx : ∃ x', stripE x' = stripE x ∧ ∀ y, Ev (fun g => itemF g d (headAt (TX ++ t :: (TI ++ t4 :: R))) x' (t :: (TI ++ t4 :: R))) y → Ev (fun g => unaryF g d (TX ++ t :: (TI ++ t4 :: R))) y := by
      have fx := hf.2.1
      split at fx
      · rename_i hu
        rw [if_pos hu] at hTX
        exact (back x).parChain hf.1 fx hTX
      · rename_i hu
        rw [if_neg hu] at hTX
        unfold parK at hTX
        split at fx
        · rename_i hc
          rw [if_pos hc] at hTX
          exact (back x).parChain hf.1 fx.2 hTX
        · rename_i hc
          rw [if_neg hc] at hTX
          have := levelB_le' x
          exact (back x).chain (by simpa using hu) (by omega) d TX _ fx hTX (see_no xt rfl)
    obtain ⟨x', hsx, hx⟩ := hx
    obtain ⟨c1, c2, c3⟩ := end_follow (t := t4) (R := R) (Or.inr (Or.inl x4))
    obtain ⟨i', hsi, hi⟩ := (back i).at_ (lv := 0) (R := t4 :: R) (Nat.zero_le _) hf.2.2 hTI c1 c2 c3
    rw [List.append_assoc, List.cons_append, List.append_assoc, List.singleton_append]
    exact ⟨.item (headAt (TX ++ t :: (TI ++ t4 :: R))) x' i', by simp only [stripE, hsx, hsi], fun y hy => hx y (Ev.step (fun g => item_eq kt xt) (Ev.bind (k := fun g i r => andThen (must [93] r) fun _ r2 => itemF g d (headAt (TX ++ t :: (TI ++ t4 :: R))) (.item (headAt (TX ++ t :: (TI ++ t4 :: R))) x' i) r2) hi (Ev.bind (k := fun g _ r2 => itemF g d (headAt (TX ++ t :: (TI ++ t4 :: R))) (.item (headAt (TX ++ t :: (TI ++ t4 :: R))) x' i') r2) (Ev.const (must_see (R := R) x4 (by omega))) hy)))⟩
  | .input a => by
    refine ⟨fun h => by simp [isUn] at h, ?_, fun h => by simp [levelB] at h⟩
    intro _ _ d T R hf hT h2
    simp only [keysE, par] at hT
    simp only [Fit] at hf
    rw [List.singleton_append] at hT
    obtain ⟨t, T1, rfl, k1, x1, hT⟩ := split_cons hT
    obtain ⟨t2, T2, rfl, k2, x2, hT⟩ := split_cons hT
    obtain ⟨t3, rfl, k3, x3⟩ := split_one hT
    simp only at k1 x1 k2 x2 k3 x3
    rw [List.cons_append, List.cons_append, List.singleton_append]
    refine ⟨.input t.at_, by simp only [stripE], fun y hy => first_chain hf (see_no x1 rfl) (see_no x1 rfl) (Ev.pure fun g => ?_) hy⟩
    rw [firstb_input k1 x1, must_see x2 (by omega)]
    simp only [andThen]
    rw [must_see x3 (by omega)]
    rfl
theorem backs_ : (l : List Ex) → (match l with | [] => True | e :: r => Back e ∧ Backs r)
  | [] => trivial
  | e :: r => ⟨back e, by
    have ih := backs_ r
    intro d T t R acc hf hd hT ht hk
    cases r with
    | nil =>
      rw [show T = [] from List.map_eq_nil_iff.1 hT]
      refine ⟨[], rfl, Ev.pure fun g => ?_⟩
      rw [List.nil_append, rest_end hk ht, List.append_nil]
      rfl
    | cons e2 r2 =>
      obtain ⟨t1, T1, rfl, k1, x1, hT⟩ := split_cons (show T.map key = (3, [44]) :: keysA (e2 :: r2) from hT)
      simp only at k1 x1
      obtain ⟨l', hs, h⟩ := rest_one (acc := acc) (R := R) ih.1 ih.2 hf hd hT ht hk
      exact ⟨l', hs, Ev.step (fun g => rest_comma k1 x1) h⟩⟩
end
end Go.Proofs.YtinbahmpifokaaaDoor.TreeP

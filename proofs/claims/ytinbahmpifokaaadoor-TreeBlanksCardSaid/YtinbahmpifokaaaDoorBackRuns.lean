/- The plain lexer and reader come to an end, with rounds enough; what the lexer gives. No program in sight. No conditions. -/
import Derived.Test.YtinbahmpifokaaaDoorBackLex
namespace Go.Proofs.YtinbahmpifokaaaDoor.TreeP
set_option linter.unusedVariables false
set_option linter.unusedSimpArgs false
theorem dropWhile_le (p : UInt8 → Bool) : (l : List UInt8) → (l.dropWhile p).length ≤ l.length
  | [] => Nat.le_refl _
  | c :: r => by
    rw [List.dropWhile_cons]
    split
    · exact Nat.le_trans (dropWhile_le p r) (by simp)
    · exact Nat.le_refl _
theorem lex_runs : (f : Nat) → (l : List UInt8) → (p n : Nat) → l.length < f → lexF f l p n ≠ none
  | 0, l, p, n, h => by omega
  | f + 1, [], p, n, h => by simp [lexF]
  | f + 1, c :: r, p, n, h => by
    simp only [List.length_cons] at h
    simp only [lexF]
    split
    · exact lex_runs f r _ _ (by omega)
    · split
      · rename_i hb hc
        have : ((c :: r).dropWhile fun x => x.toNat != 10) = (r.dropWhile fun x => x.toNat != 10) := by
          rw [List.dropWhile_cons, if_pos]
          rw [beq_iff_eq] at hc
          simp [hc]
        rw [this]
        exact lex_runs f _ _ _ (Nat.lt_of_le_of_lt (dropWhile_le _ r) (by omega))
      · split
        · simp
        · split
          · simp
          · rename_i h0 hn
            have := lex_runs f ((c :: r).drop (nextP (c :: r)).2) (p + (nextP (c :: r)).2) (n + 1) (by simp; omega)
            split
            · simp
            · assumption
theorem next_ok {c : UInt8} {r : List UInt8} (h0 : ¬ (nextP (c :: r)).2 = 0) (p : Nat) : TokOk ⟨(nextP (c :: r)).1, (c :: r).take (nextP (c :: r)).2, p⟩ := by
  unfold TokOk
  simp only
  by_cases h1 : letterB c = true
  · have hn : nextP (c :: r) = (1, ((c :: r).takeWhile fun x => letterB x || digitB x).length) := by simp only [nextP]; rw [if_pos h1]
    have ht : (c :: r).take ((c :: r).takeWhile fun x => letterB x || digitB x).length = (c :: r).takeWhile fun x => letterB x || digitB x := by
      have h2 := List.takeWhile_append_dropWhile (p := fun x => letterB x || digitB x) (l := c :: r)
      conv => lhs; arg 2; rw [← h2]
      exact List.take_left' rfl
    rw [hn]
    simp only
    rw [ht]
    refine ⟨fun _ => ⟨⟨c, r.takeWhile fun x => letterB x || digitB x, ?_, h1⟩, ?_⟩, Or.inl trivial, fun h => by omega⟩
    · rw [List.takeWhile_cons, if_pos (by rw [h1]; rfl)]
    · exact List.all_takeWhile
  · by_cases h2 : digitB c = true
    · have hn : nextP (c :: r) = (2, ((c :: r).takeWhile digitB).length) := by simp only [nextP]; rw [if_neg h1, if_pos h2]
      rw [hn]
      exact ⟨fun h => by omega, Or.inr (Or.inl rfl), fun h => by omega⟩
    · have hn : (nextP (c :: r)).1 = 3 := by
        simp only [nextP]
        rw [if_neg h1, if_neg h2]
        split <;> rfl
      rw [hn]
      exact ⟨fun h => by omega, Or.inr (Or.inr (Or.inl rfl)), fun h => by omega⟩
theorem lex_gives : (f : Nat) → (l : List UInt8) → (p n : Nat) → (ts : List Tok) → n ≤ 1500 → lexF f l p n = some (.ok ts) → ToksOk ts ∧ ts.length + n ≤ 1501
  | 0, l, p, n, ts, hn, h => by simp [lexF] at h
  | f + 1, [], p, n, ts, hn, h => by
    simp only [lexF, Option.some.injEq, Except.ok.injEq] at h
    subst h
    refine ⟨⟨fun t ht => ?_, ⟨_, rfl⟩⟩, by simp; omega⟩
    rw [List.mem_singleton] at ht
    subst ht
    exact ⟨fun h => by simp at h, Or.inr (Or.inr (Or.inr rfl)), fun _ => rfl⟩
  | f + 1, c :: r, p, n, ts, hn, h => by
    simp only [lexF] at h
    split at h
    · exact lex_gives f _ _ _ ts hn h
    · split at h
      · exact lex_gives f _ _ _ ts hn h
      · split at h
        · simp at h
        · rename_i h0
          split at h
          · simp at h
          · rename_i h15
            split at h
            · rename_i t ht
              simp only [Option.some.injEq, Except.ok.injEq] at h
              subst h
              obtain ⟨⟨a1, a2⟩, a3⟩ := lex_gives f _ _ _ t (by omega) ht
              refine ⟨⟨fun u hu => ?_, ?_⟩, by simp only [List.length_cons]; omega⟩
              · rw [List.mem_cons] at hu
                rcases hu with rfl | hu
                · exact next_ok h0 p
                · exact a1 u hu
              · obtain ⟨a, ha⟩ := a2
                refine ⟨a, ?_⟩
                cases t with
                | nil => simp at ha
                | cons u q => rw [List.getLast?_cons_cons]; exact ha
            · rename_i hx
              exact absurd h (hx ts)
/-- Rounds enough. -/
structure Runs (f : Nat) : Prop where
  expr : ∀ {lv d ts}, lv ≤ 6 → 12 * ts.length + 10 - lv ≤ f → exprF f lv d ts ≠ none
  bin : ∀ {lv d a x ts}, lv < 6 → 12 * ts.length + 1 ≤ f → binF f lv d a x ts ≠ none
  unary : ∀ {d ts}, 12 * ts.length + 3 ≤ f → unaryF f d ts ≠ none
  item : ∀ {d a x ts}, 12 * ts.length + 1 ≤ f → itemF f d a x ts ≠ none
  alone : ∀ {d ts}, 12 * ts.length + 1 ≤ f → aloneF f d ts ≠ none
  first : ∀ {d ts}, 12 * ts.length + 2 ≤ f → firstF f d ts ≠ none
  args : ∀ {d ts}, 12 * ts.length + 1 ≤ f → argsF f d ts ≠ none
  rest : ∀ {d b l ts}, 12 * ts.length + 11 ≤ f → restF f d b l ts ≠ none
theorem andThen_runs {α β : Type} {x : PR α} {k : α → List Tok → PR β} (h : x ≠ none) (hk : ∀ a r, x = some (.ok (a, r)) → k a r ≠ none) : andThen x k ≠ none := by
  unfold andThen
  split
  · exact hk _ _ rfl
  · simp
  · exact absurd rfl h
theorem must_runs (s : List UInt8) (ts : List Tok) : must s ts ≠ none := by
  unfold must
  split <;> simp [okP, failP]
theorem name_runs (ts : List Tok) : nameP ts ≠ none := by
  unfold nameP
  split
  · simp [failP]
  · split <;> simp [okP, failP]
theorem okP_runs {α : Type} (a : α) (ts : List Tok) : okP a ts ≠ none := by simp [okP]
theorem failP_runs {α : Type} (n : Int) (ts : List Tok) : (failP n ts : PR α) ≠ none := by simp [failP]
theorem op_less {lv : Nat} {ts : List Tok} (h : ¬ opP lv ts = []) : ts.tail.length < ts.length := by
  refine see_less (s := opP lv ts) ?_
  unfold opP at h ⊢
  cases hf : (levelList.getD lv []).find? (fun m => seeB m ts) with
  | none => rw [hf] at h; exact absurd rfl h
  | some m => exact List.find?_some (p := fun m => seeB m ts) hf
theorem runs : (f : Nat) → Runs f
  | 0 => ⟨fun _ h => by omega, fun _ h => by omega, fun h => by omega, fun h => by omega, fun h => by omega, fun h => by omega, fun h => by omega, fun h => by omega⟩
  | f + 1 => by
    have ih := runs f
    have L := lens f
    refine ⟨?_, ?_, ?_, ?_, ?_, ?_, ?_, ?_⟩
    · intro lv d ts hl h
      simp only [exprF]
      split
      · exact ih.unary (by omega)
      · refine andThen_runs (ih.expr (by omega) (by omega)) fun x r hx => ih.bin (by omega) ?_
        have := L.expr hx
        omega
    · intro lv d a x ts hl h
      simp only [binF]
      split
      · exact okP_runs _ _
      · rename_i ho
        have := op_less ho
        refine andThen_runs (ih.expr (by omega) (by omega)) fun x r hx => ih.bin hl ?_
        have := L.expr hx
        omega
    · intro d ts h
      simp only [unaryF]
      split
      · exact failP_runs _ _
      · split
        · rename_i hs
          have := see_less hs
          exact andThen_runs (ih.unary (by omega)) fun x r hx => okP_runs _ _
        · split
          · rename_i hs
            have := see_less hs
            exact andThen_runs (ih.unary (by omega)) fun x r hx => okP_runs _ _
          · refine andThen_runs (ih.first (by omega)) fun x r hx => ih.item ?_
            have := L.first hx
            omega
    · intro d a x ts h
      simp only [itemF]
      split
      · rename_i hs
        have := see_less hs
        refine andThen_runs (ih.expr (by omega) (by omega)) fun x r hx => andThen_runs (must_runs _ _) fun u r2 hu => ih.item ?_
        have := L.expr hx
        have := must_less hu
        omega
      · exact okP_runs _ _
    · intro d ts h
      simp only [aloneF]
      refine andThen_runs (must_runs _ _) fun u r hu => andThen_runs (ih.expr (by omega) ?_) fun x r2 hx => andThen_runs (must_runs _ _) fun _ _ _ => okP_runs _ _
      have := must_less hu
      omega
    · intro d ts h
      simp only [firstF]
      split
      · split
        · exact okP_runs _ _
        · exact failP_runs _ _
      · split
        · exact ih.alone (by omega)
        · split
          · rename_i hs
            have := see_less hs
            exact andThen_runs (ih.alone (by omega)) fun x r hx => okP_runs _ _
          · split
            · rename_i hs
              have := see_less hs
              exact andThen_runs (ih.alone (by omega)) fun x r hx => okP_runs _ _
            · split
              · exact andThen_runs (must_runs _ _) fun u r hu => andThen_runs (must_runs _ _) fun _ _ _ => okP_runs _ _
              · refine andThen_runs (name_runs _) fun n r hn => ?_
                have := name_less hn
                split
                · exact andThen_runs (ih.args (by omega)) fun _ _ _ => okP_runs _ _
                · exact okP_runs _ _
    · intro d ts h
      simp only [argsF]
      refine andThen_runs (must_runs _ _) fun u r hu => ih.rest ?_
      have := must_less hu
      omega
    · intro d b l ts h
      simp only [restF]
      split
      · exact okP_runs _ _
      · refine andThen_runs (by split; exact okP_runs _ _; exact must_runs _ _) fun u r hu => ?_
        have hr : r.length ≤ ts.length := by
          split at hu
          · rw [(okP_ok hu).2]; exact Nat.le_refl _
          · exact Nat.le_of_lt (must_less hu)
        refine andThen_runs (ih.expr (by omega) (by omega)) fun x r2 hx => ih.rest ?_
        have := L.expr hx
        omega
end Go.Proofs.YtinbahmpifokaaaDoor.TreeP

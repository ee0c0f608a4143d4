/- What the plain reader leaves is no longer than what it was given. No program in sight. No conditions. -/
import Derived.Test.YtinbahmpifokaaaDoorTreePlain
namespace Go.Proofs.YtinbahmpifokaaaDoor.TreeP
set_option linter.unusedVariables false
set_option linter.unusedSimpArgs false
theorem andThen_ok {α β : Type} {x : PR α} {f : α → List Tok → PR β} {y : β × List Tok} (h : andThen x f = some (.ok y)) : ∃ a ts, x = some (.ok (a, ts)) ∧ f a ts = some (.ok y) := by
  unfold andThen at h
  split at h
  · exact ⟨_, _, rfl, h⟩
  · cases h
  · cases h
theorem okP_ok {α : Type} {a x : α} {ts r : List Tok} (h : okP a ts = some (.ok (x, r))) : x = a ∧ r = ts := by
  simp only [okP, Option.some.injEq, Except.ok.injEq, Prod.mk.injEq] at h
  exact ⟨h.1.symm, h.2.symm⟩
theorem failP_ok {α : Type} {e : Int} {x : α} {ts r : List Tok} (h : failP e ts = some (.ok (x, r))) : False := by
  simp [failP] at h
theorem must_ok {s : List UInt8} {ts r : List Tok} {u : Unit} (h : must s ts = some (.ok (u, r))) : r = ts.tail ∧ seeB s ts = true := by
  unfold must at h
  split at h
  · exact ⟨(okP_ok h).2, ‹_›⟩
  · exact (failP_ok h).elim
theorem nameP_ok {ts r : List Tok} {s : List UInt8} (h : nameP ts = some (.ok (s, r))) : r = ts.tail ∧ s = headText ts := by
  unfold nameP at h
  split at h
  · exact (failP_ok h).elim
  · split at h
    · exact (failP_ok h).elim
    · exact ⟨(okP_ok h).2, (okP_ok h).1⟩
theorem see_less {s : List UInt8} {ts : List Tok} (h : seeB s ts = true) : ts.tail.length < ts.length := by
  cases ts with
  | nil => simp [seeB, headKind] at h
  | cons t r => simp
theorem name_less {ts r : List Tok} {s : List UInt8} (h : nameP ts = some (.ok (s, r))) : r.length < ts.length := by
  have h1 := (nameP_ok h).1
  subst h1
  cases ts with
  | nil => simp [nameP, headKind, failP] at h
  | cons t r => simp
theorem must_less {s : List UInt8} {ts r : List Tok} {u : Unit} (h : must s ts = some (.ok (u, r))) : r.length < ts.length := by
  obtain ⟨rfl, h1⟩ := must_ok h
  exact see_less h1
theorem tail_le (ts : List Tok) : ts.tail.length ≤ ts.length := by simp
structure Lens (f : Nat) : Prop where
  expr : ∀ {level deep ts x r}, exprF f level deep ts = some (.ok (x, r)) → r.length < ts.length
  bin : ∀ {level deep a y ts x r}, binF f level deep a y ts = some (.ok (x, r)) → r.length ≤ ts.length
  unary : ∀ {deep ts x r}, unaryF f deep ts = some (.ok (x, r)) → r.length < ts.length
  item : ∀ {deep a y ts x r}, itemF f deep a y ts = some (.ok (x, r)) → r.length ≤ ts.length
  alone : ∀ {deep ts x r}, aloneF f deep ts = some (.ok (x, r)) → r.length < ts.length
  first : ∀ {deep ts x r}, firstF f deep ts = some (.ok (x, r)) → r.length < ts.length
  args : ∀ {deep ts x r}, argsF f deep ts = some (.ok (x, r)) → r.length < ts.length
  rest : ∀ {deep b l ts x r}, restF f deep b l ts = some (.ok (x, r)) → r.length ≤ ts.length
theorem lens : (f : Nat) → Lens f
  | 0 => ⟨fun h => by simp [exprF] at h, fun h => by simp [binF] at h, fun h => by simp [unaryF] at h, fun h => by simp [itemF] at h, fun h => by simp [aloneF] at h, fun h => by simp [firstF] at h, fun h => by simp [argsF] at h, fun h => by simp [restF] at h⟩
  | f + 1 => by
    have ih := lens f
    refine ⟨?_, ?_, ?_, ?_, ?_, ?_, ?_, ?_⟩
    · intro level deep ts x r h
      simp only [exprF] at h
      split at h
      · exact ih.unary h
      · obtain ⟨a, t, h1, h2⟩ := andThen_ok h
        exact Nat.lt_of_le_of_lt (ih.bin h2) (ih.expr h1)
    · intro level deep a y ts x r h
      simp only [binF] at h
      split at h
      · rw [(okP_ok h).2]; exact Nat.le_refl _
      · obtain ⟨a, t, h1, h2⟩ := andThen_ok h
        exact Nat.le_trans (ih.bin h2) (Nat.le_of_lt (Nat.lt_of_lt_of_le (ih.expr h1) (tail_le _)))
    · intro deep ts x r h
      simp only [unaryF] at h
      split at h
      · exact (failP_ok h).elim
      · split at h
        · obtain ⟨a, t, h1, h2⟩ := andThen_ok h
          rw [(okP_ok h2).2]; exact Nat.lt_of_lt_of_le (ih.unary h1) (tail_le _)
        · split at h
          · obtain ⟨a, t, h1, h2⟩ := andThen_ok h
            rw [(okP_ok h2).2]; exact Nat.lt_of_lt_of_le (ih.unary h1) (tail_le _)
          · obtain ⟨a, t, h1, h2⟩ := andThen_ok h
            exact Nat.lt_of_le_of_lt (ih.item h2) (ih.first h1)
    · intro deep a y ts x r h
      simp only [itemF] at h
      split at h
      · obtain ⟨i, t, h1, h2⟩ := andThen_ok h
        obtain ⟨u, t2, h3, h4⟩ := andThen_ok h2
        have := ih.item h4
        have := must_less h3
        have := ih.expr h1
        have := tail_le ts
        omega
      · rw [(okP_ok h).2]; exact Nat.le_refl _
    · intro deep ts x r h
      simp only [aloneF] at h
      obtain ⟨u, t, h1, h2⟩ := andThen_ok h
      obtain ⟨y, t2, h3, h4⟩ := andThen_ok h2
      obtain ⟨u2, t3, h5, h6⟩ := andThen_ok h4
      have := must_less h1
      have := must_less h5
      have := ih.expr h3
      rw [(okP_ok h6).2]
      omega
    · intro deep ts x r h
      simp only [firstF] at h
      split at h
      · split at h
        · rw [(okP_ok h).2]
          cases ts with
          | nil => rename_i h1 _; simp [headKind] at h1
          | cons t r => simp
        · exact (failP_ok h).elim
      · split at h
        · exact ih.alone h
        · split at h
          · obtain ⟨a, t, h1, h2⟩ := andThen_ok h
            rw [(okP_ok h2).2]; exact Nat.lt_of_lt_of_le (ih.alone h1) (tail_le _)
          · split at h
            · obtain ⟨a, t, h1, h2⟩ := andThen_ok h
              rw [(okP_ok h2).2]; exact Nat.lt_of_lt_of_le (ih.alone h1) (tail_le _)
            · split at h
              · obtain ⟨u, t, h1, h2⟩ := andThen_ok h
                obtain ⟨u2, t2, h3, h4⟩ := andThen_ok h2
                have := must_less h1
                have := must_less h3
                have := tail_le ts
                rw [(okP_ok h4).2]
                omega
              · obtain ⟨n, t, h1, h2⟩ := andThen_ok h
                have h0 := name_less h1
                split at h2
                · obtain ⟨l, t2, h3, h4⟩ := andThen_ok h2
                  rw [(okP_ok h4).2]; exact Nat.lt_trans (ih.args h3) h0
                · rw [(okP_ok h2).2]; exact h0
    · intro deep ts x r h
      simp only [argsF] at h
      obtain ⟨u, t, h1, h2⟩ := andThen_ok h
      exact Nat.lt_of_le_of_lt (ih.rest h2) (must_less h1)
    · intro deep b l ts x r h
      simp only [restF] at h
      split at h
      · rw [(okP_ok h).2]; exact tail_le _
      · obtain ⟨u, t, h1, h2⟩ := andThen_ok h
        have ht : t.length ≤ ts.length := by
          split at h1
          · rw [(okP_ok h1).2]; exact Nat.le_refl _
          · exact Nat.le_of_lt (must_less h1)
        obtain ⟨y, t2, h3, h4⟩ := andThen_ok h2
        exact Nat.le_trans (ih.rest h4) (Nat.le_trans (Nat.le_of_lt (ih.expr h3)) ht)
end Go.Proofs.YtinbahmpifokaaaDoor.TreeP

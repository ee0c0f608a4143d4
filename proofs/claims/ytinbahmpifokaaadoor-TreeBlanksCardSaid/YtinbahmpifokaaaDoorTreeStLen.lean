/- What the plain reader of statements leaves is no longer than what it was given. No program in sight. No conditions. -/
import Derived.Test.YtinbahmpifokaaaDoorTreeLen
namespace Go.Proofs.YtinbahmpifokaaaDoor.TreeP
set_option linter.unusedVariables false
set_option linter.unusedSimpArgs false
structure SLens (f : Nat) : Prop where
  block : ∀ {deep ts x r}, blockF f deep ts = some (.ok (x, r)) → r.length < ts.length
  stmts : ∀ {deep l ts x r}, stmtsF f deep l ts = some (.ok (x, r)) → r.length ≤ ts.length
  stmt : ∀ {deep ts x r}, stmtF f deep ts = some (.ok (x, r)) → r.length < ts.length
  named : ∀ {ts x r}, namedF f ts = some (.ok (x, r)) → r.length < ts.length
theorem slens : (f : Nat) → SLens f
  | 0 => ⟨fun h => by simp [blockF] at h, fun h => by simp [stmtsF] at h, fun h => by simp [stmtF] at h, fun h => by simp [namedF] at h⟩
  | f + 1 => by
    have ih := slens f
    have e := lens f
    refine ⟨?_, ?_, ?_, ?_⟩
    · intro deep ts x r h
      simp only [blockF] at h
      split at h
      · exact (failP_ok h).elim
      · obtain ⟨u, t, h1, h2⟩ := andThen_ok h
        exact Nat.lt_of_le_of_lt (ih.stmts h2) (must_less h1)
    · intro deep l ts x r h
      simp only [stmtsF] at h
      split at h
      · rw [(okP_ok h).2]; exact tail_le _
      · obtain ⟨s, t, h1, h2⟩ := andThen_ok h
        exact Nat.le_trans (ih.stmts h2) (Nat.le_of_lt (ih.stmt h1))
    · intro deep ts x r h
      have h0 := tail_le ts
      simp only [stmtF] at h
      split at h
      · obtain ⟨v, t, h1, h2⟩ := andThen_ok h
        obtain ⟨b, t2, h3, h4⟩ := andThen_ok h2
        have a1 := e.alone h1
        have a2 := ih.block h3
        split at h4
        · obtain ⟨b2, t3, h5, h6⟩ := andThen_ok h4
          have a3 := ih.block h5
          have := tail_le t2
          rw [(okP_ok h6).2]
          omega
        · rw [(okP_ok h4).2]
          omega
      · split at h
        · obtain ⟨v, t, h1, h2⟩ := andThen_ok h
          obtain ⟨b, t2, h3, h4⟩ := andThen_ok h2
          have a1 := e.alone h1
          have a2 := ih.block h3
          rw [(okP_ok h4).2]
          omega
        · split at h
          · obtain ⟨n, t, h1, h2⟩ := andThen_ok h
            obtain ⟨u, t2, h3, h4⟩ := andThen_ok h2
            obtain ⟨v, t3, h5, h6⟩ := andThen_ok h4
            obtain ⟨u2, t4, h7, h8⟩ := andThen_ok h6
            have a1 := name_less h1
            have a2 := must_less h3
            have a3 := e.expr h5
            have a4 := must_less h7
            rw [(okP_ok h8).2]
            omega
          · split at h
            · obtain ⟨v, t, h1, h2⟩ := andThen_ok h
              obtain ⟨u, t2, h3, h4⟩ := andThen_ok h2
              have a1 := e.expr h1
              have a2 := must_less h3
              rw [(okP_ok h4).2]
              omega
            · split at h
              · obtain ⟨v, t, h1, h2⟩ := andThen_ok h
                obtain ⟨u, t2, h3, h4⟩ := andThen_ok h2
                have a1 := e.expr h1
                have a2 := must_less h3
                rw [(okP_ok h4).2]
                omega
              · obtain ⟨v, t, h1, h2⟩ := andThen_ok h
                obtain ⟨u, t2, h3, h4⟩ := andThen_ok h2
                have a1 := ih.named h1
                have a2 := must_less h3
                rw [(okP_ok h4).2]
                omega
    · intro ts x r h
      simp only [namedF] at h
      obtain ⟨n, t, h1, h2⟩ := andThen_ok h
      have a1 := name_less h1
      split at h2
      · obtain ⟨l, t2, h3, h4⟩ := andThen_ok h2
        have a2 := e.args h3
        rw [(okP_ok h4).2]
        omega
      · split at h2
        · obtain ⟨i, t2, h3, h4⟩ := andThen_ok h2
          obtain ⟨u, t3, h5, h6⟩ := andThen_ok h4
          obtain ⟨u2, t4, h7, h8⟩ := andThen_ok h6
          obtain ⟨v, t5, h9, h10⟩ := andThen_ok h8
          have := tail_le t
          have a2 := e.expr h3
          have a3 := must_less h5
          have a4 := must_less h7
          have a5 := e.expr h9
          rw [(okP_ok h10).2]
          omega
        · obtain ⟨u, t2, h3, h4⟩ := andThen_ok h2
          obtain ⟨v, t3, h5, h6⟩ := andThen_ok h4
          have a2 := must_less h3
          have a3 := e.expr h5
          rw [(okP_ok h6).2]
          omega
end Go.Proofs.YtinbahmpifokaaaDoor.TreeP

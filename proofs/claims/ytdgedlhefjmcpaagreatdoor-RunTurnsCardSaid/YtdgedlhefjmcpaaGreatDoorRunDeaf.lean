/- Plainly: a text without the word 'input' is a program that asks for nothing. No program in sight. No conditions. -/
import Derived.Test.YtdgedlhefjmcpaaGreatDoorRunPl
namespace Go.Proofs.YtdgedlhefjmcpaaGreatDoor.TreeP
open Go.RowKit
set_option linter.unusedVariables false
set_option linter.unusedSimpArgs false
/-- No token asks. -/
def NoIn (ts : List Tok) : Prop := ∀ t ∈ ts, t.text ≠ kInput
theorem NoIn.tail {ts : List Tok} (h : NoIn ts) : NoIn ts.tail := fun t ht => h t (List.mem_of_mem_tail ht)
theorem noIn_see {ts : List Tok} (h : NoIn ts) : seeB kInput ts = false := by
  cases ts with
  | nil => rfl
  | cons t r =>
    have := h t List.mem_cons_self
    simp [seeB, headText, this]
theorem noIn_must {ts r : List Tok} {s : List UInt8} {u : Unit} (hk : NoIn ts) (h : must s ts = some (.ok (u, r))) : NoIn r := by rw [(must_ok h).1]; exact hk.tail
theorem noIn_name {ts r : List Tok} {s : List UInt8} (hk : NoIn ts) (h : nameP ts = some (.ok (s, r))) : NoIn r := by rw [(nameP_ok h).1]; exact hk.tail
theorem askEs_append {p : Prop} : (l : List Ex) → (e : Ex) → AskEs p l → AskE p e → AskEs p (l ++ [e])
  | [], e, _, h => ⟨h, trivial⟩
  | a :: r, e, h, he => ⟨h.1, askEs_append r e h.2 he⟩
theorem askSs_append {p : Prop} : (l : List St) → (e : St) → AskSs p l → AskS p e → AskSs p (l ++ [e])
  | [], e, _, h => ⟨h, trivial⟩
  | a :: r, e, h, he => ⟨h.1, askSs_append r e h.2 he⟩
structure DeafF (f : Nat) : Prop where
  expr : ∀ {lv d ts e r}, NoIn ts → exprF f lv d ts = some (.ok (e, r)) → AskE False e ∧ NoIn r
  bin : ∀ {lv d a x ts e r}, NoIn ts → AskE False x → binF f lv d a x ts = some (.ok (e, r)) → AskE False e ∧ NoIn r
  unary : ∀ {d ts e r}, NoIn ts → unaryF f d ts = some (.ok (e, r)) → AskE False e ∧ NoIn r
  item : ∀ {d a x ts e r}, NoIn ts → AskE False x → itemF f d a x ts = some (.ok (e, r)) → AskE False e ∧ NoIn r
  alone : ∀ {d ts e r}, NoIn ts → aloneF f d ts = some (.ok (e, r)) → AskE False e ∧ NoIn r
  first : ∀ {d ts e r}, NoIn ts → firstF f d ts = some (.ok (e, r)) → AskE False e ∧ NoIn r
  args : ∀ {d ts l r}, NoIn ts → argsF f d ts = some (.ok (l, r)) → AskEs False l ∧ NoIn r
  rest : ∀ {d b l ts l' r}, NoIn ts → AskEs False l → restF f d b l ts = some (.ok (l', r)) → AskEs False l' ∧ NoIn r
theorem deafF : (f : Nat) → DeafF f
  | 0 => ⟨fun _ h => by simp [exprF] at h, fun _ _ h => by simp [binF] at h, fun _ h => by simp [unaryF] at h, fun _ _ h => by simp [itemF] at h, fun _ h => by simp [aloneF] at h, fun _ h => by simp [firstF] at h, fun _ h => by simp [argsF] at h, fun _ _ h => by simp [restF] at h⟩
  | f + 1 => by
    have ih := deafF f
    refine ⟨?_, ?_, ?_, ?_, ?_, ?_, ?_, ?_⟩
    · intro lv d ts e r hk h
      simp only [exprF] at h
      split at h
      · exact ih.unary hk h
      · obtain ⟨x, t, h1, h2⟩ := andThen_ok h
        obtain ⟨a1, a2⟩ := ih.expr hk h1
        exact ih.bin a2 a1 h2
    · intro lv d a x ts e r hk hx h
      simp only [binF] at h
      split at h
      · obtain ⟨rfl, rfl⟩ := okP_ok h
        exact ⟨hx, hk⟩
      · obtain ⟨y, t, h1, h2⟩ := andThen_ok h
        obtain ⟨a1, a2⟩ := ih.expr hk.tail h1
        exact ih.bin (x := .bin a (opP lv ts) x y) a2 ⟨hx, a1⟩ h2
    · intro d ts e r hk h
      simp only [unaryF] at h
      split at h
      · exact (failP_ok h).elim
      · split at h
        · obtain ⟨x, t, h1, h2⟩ := andThen_ok h
          obtain ⟨rfl, rfl⟩ := okP_ok h2
          obtain ⟨a1, a2⟩ := ih.unary hk.tail h1; exact ⟨a1, a2⟩
        · split at h
          · obtain ⟨x, t, h1, h2⟩ := andThen_ok h
            obtain ⟨rfl, rfl⟩ := okP_ok h2
            obtain ⟨a1, a2⟩ := ih.unary hk.tail h1; exact ⟨a1, a2⟩
          · obtain ⟨x, t, h1, h2⟩ := andThen_ok h
            obtain ⟨a1, a2⟩ := ih.first hk h1
            exact ih.item a2 a1 h2
    · intro d a x ts e r hk hx h
      simp only [itemF] at h
      split at h
      · obtain ⟨i, t, h1, h2⟩ := andThen_ok h
        obtain ⟨u, t2, h3, h4⟩ := andThen_ok h2
        obtain ⟨a1, a2⟩ := ih.expr hk.tail h1
        exact ih.item (x := .item a x i) (noIn_must a2 h3) ⟨hx, a1⟩ h4
      · obtain ⟨rfl, rfl⟩ := okP_ok h
        exact ⟨hx, hk⟩
    · intro d ts e r hk h
      simp only [aloneF] at h
      obtain ⟨u, t, h1, h2⟩ := andThen_ok h
      obtain ⟨y, t2, h3, h4⟩ := andThen_ok h2
      obtain ⟨u2, t3, h5, h6⟩ := andThen_ok h4
      obtain ⟨rfl, rfl⟩ := okP_ok h6
      obtain ⟨a1, a2⟩ := ih.expr (noIn_must hk h1) h3
      exact ⟨a1, noIn_must a2 h5⟩
    · intro d ts e r hk h
      simp only [firstF] at h
      split at h
      · split at h
        · obtain ⟨rfl, rfl⟩ := okP_ok h
          exact ⟨trivial, hk.tail⟩
        · exact (failP_ok h).elim
      · split at h
        · exact ih.alone hk h
        · split at h
          · obtain ⟨x, t, h1, h2⟩ := andThen_ok h
            obtain ⟨rfl, rfl⟩ := okP_ok h2
            obtain ⟨a1, a2⟩ := ih.alone hk.tail h1; exact ⟨a1, a2⟩
          · split at h
            · obtain ⟨x, t, h1, h2⟩ := andThen_ok h
              obtain ⟨rfl, rfl⟩ := okP_ok h2
              obtain ⟨a1, a2⟩ := ih.alone hk.tail h1; exact ⟨a1, a2⟩
            · split at h
              · rename_i hs
                rw [noIn_see hk] at hs
                cases hs
              · obtain ⟨n, t, h1, h2⟩ := andThen_ok h
                have hn := noIn_name hk h1
                split at h2
                · obtain ⟨l, t2, h3, h4⟩ := andThen_ok h2
                  obtain ⟨rfl, rfl⟩ := okP_ok h4
                  exact ih.args hn h3
                · obtain ⟨rfl, rfl⟩ := okP_ok h2
                  exact ⟨trivial, hn⟩
    · intro d ts l r hk h
      simp only [argsF] at h
      obtain ⟨u, t, h1, h2⟩ := andThen_ok h
      exact ih.rest (l := []) (noIn_must hk h1) trivial h2
    · intro d b l ts l' r hk hl h
      simp only [restF] at h
      split at h
      · obtain ⟨rfl, rfl⟩ := okP_ok h
        exact ⟨hl, hk.tail⟩
      · obtain ⟨u, t, h1, h2⟩ := andThen_ok h
        obtain ⟨y, t2, h3, h4⟩ := andThen_ok h2
        have ht : NoIn t := by
          split at h1
          · rw [(okP_ok h1).2]; exact hk
          · exact noIn_must hk h1
        obtain ⟨a1, a2⟩ := ih.expr ht h3
        exact ih.rest a2 (askEs_append l y hl a1) h4
structure DeafS (f : Nat) : Prop where
  block : ∀ {d ts l r}, NoIn ts → blockF f d ts = some (.ok (l, r)) → AskSs False l ∧ NoIn r
  stmts : ∀ {d l ts l' r}, NoIn ts → AskSs False l → stmtsF f d l ts = some (.ok (l', r)) → AskSs False l' ∧ NoIn r
  stmt : ∀ {d ts s r}, NoIn ts → stmtF f d ts = some (.ok (s, r)) → AskS False s ∧ NoIn r
  named : ∀ {ts s r}, NoIn ts → namedF f ts = some (.ok (s, r)) → AskS False s ∧ NoIn r
theorem deafS : (f : Nat) → DeafS f
  | 0 => ⟨fun _ h => by simp [blockF] at h, fun _ _ h => by simp [stmtsF] at h, fun _ h => by simp [stmtF] at h, fun _ h => by simp [namedF] at h⟩
  | f + 1 => by
    have ih := deafS f
    have e := deafF f
    refine ⟨?_, ?_, ?_, ?_⟩
    · intro d ts l r hk h
      simp only [blockF] at h
      split at h
      · exact (failP_ok h).elim
      · obtain ⟨u, t, h1, h2⟩ := andThen_ok h
        exact ih.stmts (l := []) (noIn_must hk h1) trivial h2
    · intro d l ts l' r hk hl h
      simp only [stmtsF] at h
      split at h
      · obtain ⟨rfl, rfl⟩ := okP_ok h
        exact ⟨hl, hk.tail⟩
      · obtain ⟨s, t, h1, h2⟩ := andThen_ok h
        obtain ⟨a1, a2⟩ := ih.stmt hk h1
        exact ih.stmts a2 (askSs_append l s hl a1) h2
    · intro d ts s r hk h
      simp only [stmtF] at h
      split at h
      · obtain ⟨v, t, h1, h2⟩ := andThen_ok h
        obtain ⟨b, t2, h3, h4⟩ := andThen_ok h2
        obtain ⟨a1, a2⟩ := e.alone hk.tail h1
        obtain ⟨b1, b2⟩ := ih.block a2 h3
        split at h4
        · obtain ⟨b', t3, h5, h6⟩ := andThen_ok h4
          obtain ⟨rfl, rfl⟩ := okP_ok h6
          obtain ⟨c1, c2⟩ := ih.block b2.tail h5
          exact ⟨⟨a1, b1, c1⟩, c2⟩
        · obtain ⟨rfl, rfl⟩ := okP_ok h4
          exact ⟨⟨a1, b1, trivial⟩, b2⟩
      · split at h
        · obtain ⟨v, t, h1, h2⟩ := andThen_ok h
          obtain ⟨b, t2, h3, h4⟩ := andThen_ok h2
          obtain ⟨a1, a2⟩ := e.alone hk.tail h1
          obtain ⟨b1, b2⟩ := ih.block a2 h3
          obtain ⟨rfl, rfl⟩ := okP_ok h4
          exact ⟨⟨a1, b1⟩, b2⟩
        · split at h
          · obtain ⟨n, t, h1, h2⟩ := andThen_ok h
            obtain ⟨u, t2, h3, h4⟩ := andThen_ok h2
            obtain ⟨v, t3, h5, h6⟩ := andThen_ok h4
            obtain ⟨u2, t4, h7, h8⟩ := andThen_ok h6
            obtain ⟨rfl, rfl⟩ := okP_ok h8
            obtain ⟨a1, a2⟩ := e.expr (noIn_must (noIn_name hk.tail h1) h3) h5
            exact ⟨a1, noIn_must a2 h7⟩
          · split at h
            · obtain ⟨v, t, h1, h2⟩ := andThen_ok h
              obtain ⟨u, t2, h3, h4⟩ := andThen_ok h2
              obtain ⟨rfl, rfl⟩ := okP_ok h4
              obtain ⟨a1, a2⟩ := e.expr hk.tail h1
              exact ⟨a1, noIn_must a2 h3⟩
            · split at h
              · obtain ⟨v, t, h1, h2⟩ := andThen_ok h
                obtain ⟨u, t2, h3, h4⟩ := andThen_ok h2
                obtain ⟨rfl, rfl⟩ := okP_ok h4
                obtain ⟨a1, a2⟩ := e.expr hk.tail h1
                exact ⟨a1, noIn_must a2 h3⟩
              · obtain ⟨v, t, h1, h2⟩ := andThen_ok h
                obtain ⟨u, t2, h3, h4⟩ := andThen_ok h2
                obtain ⟨rfl, rfl⟩ := okP_ok h4
                obtain ⟨a1, a2⟩ := ih.named hk h1
                exact ⟨a1, noIn_must a2 h3⟩
    · intro ts s r hk h
      simp only [namedF] at h
      obtain ⟨n, t, h1, h2⟩ := andThen_ok h
      have hn := noIn_name hk h1
      split at h2
      · obtain ⟨l, t2, h3, h4⟩ := andThen_ok h2
        obtain ⟨rfl, rfl⟩ := okP_ok h4
        exact e.args hn h3
      · split at h2
        · obtain ⟨i, t2, h3, h4⟩ := andThen_ok h2
          obtain ⟨u, t3, h5, h6⟩ := andThen_ok h4
          obtain ⟨u2, t4, h7, h8⟩ := andThen_ok h6
          obtain ⟨v, t5, h9, h10⟩ := andThen_ok h8
          obtain ⟨rfl, rfl⟩ := okP_ok h10
          obtain ⟨a1, a2⟩ := e.expr hn.tail h3
          obtain ⟨b1, b2⟩ := e.expr (noIn_must (noIn_must a2 h5) h7) h9
          exact ⟨⟨a1, b1⟩, b2⟩
        · obtain ⟨u, t2, h3, h4⟩ := andThen_ok h2
          obtain ⟨v, t3, h5, h6⟩ := andThen_ok h4
          obtain ⟨rfl, rfl⟩ := okP_ok h6
          exact e.expr (noIn_must hn h3) h5
theorem params_deaf : (f : Nat) → (b : Bool) → (l : List (List UInt8 × Int)) → (ts : List Tok) → {l' : List (List UInt8 × Int)} → {r : List Tok} → NoIn ts → paramsF f b l ts = some (.ok (l', r)) → NoIn r
  | 0, _, _, _, l', r, _, h => by simp [paramsF] at h
  | f + 1, b, l, ts, l', r, hk, h => by
    simp only [paramsF] at h
    split at h
    · obtain ⟨rfl, rfl⟩ := okP_ok h
      exact hk.tail
    · obtain ⟨u, t, h1, h2⟩ := andThen_ok h
      have ht : NoIn t := by
        split at h1
        · rw [(okP_ok h1).2]; exact hk
        · exact noIn_must hk h1
      obtain ⟨n, t2, h3, h4⟩ := andThen_ok h2
      obtain ⟨u2, t3, h5, h6⟩ := andThen_ok h4
      have h9 := noIn_must (noIn_name ht h3) h5
      split at h6
      · exact params_deaf f _ _ _ h9.tail h6
      · obtain ⟨u3, t4, h7, h8⟩ := andThen_ok h6
        exact params_deaf f _ _ _ (noIn_must h9 h7) h8
theorem function_deaf {f : Nat} {ts r : List Tok} {x : Fn} (hk : NoIn ts) (h : functionF f ts = some (.ok (x, r))) : AskSs False x.body ∧ NoIn r := by
  cases f with
  | zero => simp [functionF] at h
  | succ f =>
    simp only [functionF] at h
    obtain ⟨u, t, h1, h2⟩ := andThen_ok h
    obtain ⟨n, t2, h3, h4⟩ := andThen_ok h2
    obtain ⟨u2, t3, h5, h6⟩ := andThen_ok h4
    obtain ⟨ps, t4, h7, h8⟩ := andThen_ok h6
    obtain ⟨b, t5, h9, h10⟩ := andThen_ok h8
    obtain ⟨rfl, rfl⟩ := okP_ok h10
    exact (deafS f).block (params_deaf _ _ _ _ (noIn_must (noIn_name (noIn_must hk h1) h3) h5) h7) h9
theorem program_deaf : (f : Nat) → (l : List Fn) → (ts : List Tok) → {l' : List Fn} → {r : List Tok} → NoIn ts → (∀ x ∈ l, AskSs False x.body) → programF f l ts = some (.ok (l', r)) → ∀ x ∈ l', AskSs False x.body
  | 0, _, _, l', r, _, _, h => by simp [programF] at h
  | f + 1, l, ts, l', r, hk, hl, h => by
    simp only [programF] at h
    split at h
    · obtain ⟨rfl, rfl⟩ := okP_ok h
      exact hl
    · split at h
      · exact (failP_ok h).elim
      · obtain ⟨x, t, h1, h2⟩ := andThen_ok h
        obtain ⟨a1, a2⟩ := function_deaf hk h1
        exact program_deaf f _ _ a2 (fun y hy => by
          rw [List.mem_append, List.mem_singleton] at hy
          rcases hy with hy | rfl
          · exact hl y hy
          · exact a1) h2
/-- A token's text stands in the text. -/
theorem lex_in : (f : Nat) → (l : List UInt8) → (p n : Nat) → (ts : List Tok) → lexF f l p n = some (.ok ts) → ∀ t ∈ ts, t.text <:+: l
  | 0, l, p, n, ts, h => by simp [lexF] at h
  | f + 1, [], p, n, ts, h => by
    simp only [lexF, Option.some.injEq, Except.ok.injEq] at h
    subst h
    intro t ht
    simp only [List.mem_singleton] at ht
    subst ht
    exact List.infix_refl _
  | f + 1, c :: r, p, n, ts, h => by
    simp only [lexF] at h
    split at h
    · intro t ht
      exact (lex_in f r _ _ ts h t ht).trans (List.suffix_cons c r).isInfix
    · split at h
      · intro t ht
        exact (lex_in f _ _ _ ts h t ht).trans (List.dropWhile_suffix _).isInfix
      · split at h
        · cases h
        · split at h
          · cases h
          · split at h
            · rename_i t2 h2
              simp only [Option.some.injEq, Except.ok.injEq] at h
              subst h
              intro t ht
              rcases List.mem_cons.1 ht with rfl | ht
              · exact (List.take_prefix _ _).isInfix
              · exact (lex_in f _ _ _ t2 h2 t ht).trans (List.drop_suffix _ _).isInfix
            · rename_i hne
              exact absurd h (by rename_i x; exact hne _)
theorem noIn_lex {f : Nat} {s : List UInt8} {p n : Nat} {ts : List Tok} (h : lexF f s p n = some (.ok ts)) (hs : ¬ kInput <:+: s) : NoIn ts := fun t ht e => hs (e ▸ lex_in f s p n ts h t ht)
end Go.Proofs.YtdgedlhefjmcpaaGreatDoor.TreeP

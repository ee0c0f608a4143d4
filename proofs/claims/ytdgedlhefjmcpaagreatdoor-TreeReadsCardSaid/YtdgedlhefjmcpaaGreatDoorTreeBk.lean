/- What the plain reader made fits: its depth, its names, numbers and marks; it is spelled with no more tokens than were read. No program in sight. No conditions. What the plain reader makes fits. No program in sight. No conditions. What the plain reader makes of statements and functions fits. No program in sight. No conditions. What is spelled is read again, but for places: expressions. No program in sight. No conditions. What is spelled is read again, but for places: every expression. No program in sight. No conditions. What is spelled is read again, but for places: statements, functions, programs. No program in sight. No conditions. What is written is lexed as it is spelled. No program in sight. No conditions. What is written is lexed as it is spelled: statements, functions, programs; how long it is. No program in sight. No conditions. The plain lexer and reader come to an end, with rounds enough; what the lexer gives. No program in sight. No conditions. -/
import Derived.Test.YtdgedlhefjmcpaaGreatDoorTreeP
import Derived.Test.YtdgedlhefjmcpaaGreatDoorTreeMem
namespace Go.Proofs.YtdgedlhefjmcpaaGreatDoor.TreeP
set_option linter.unusedVariables false
set_option linter.unusedSimpArgs false
/-- A name. -/
def NameOk (s : List UInt8) : Prop := (∃ c r, s = c :: r ∧ letterB c = true) ∧ s.all (fun x => letterB x || digitB x) = true ∧ keptB s = false ∧ s.length ≤ 12
/-- Tokens as a text gives them. -/
def TokOk (t : Tok) : Prop :=
  (t.kind = 1 → (∃ c r, t.text = c :: r ∧ letterB c = true) ∧ t.text.all (fun x => letterB x || digitB x) = true) ∧ (t.kind = 1 ∨ t.kind = 2 ∨ t.kind = 3 ∨ t.kind = 4) ∧ (t.kind = 4 → t.text = [])
/-- The end stands at the end. -/
def Last4 (ts : List Tok) : Prop := ∃ a, ts.getLast? = some ⟨4, [], a⟩
def ToksOk (ts : List Tok) : Prop := (∀ t ∈ ts, TokOk t) ∧ Last4 ts
theorem ToksOk.tail {ts : List Tok} (h : ToksOk ts) (hk : headKind ts ≠ 4) : ToksOk ts.tail := by
  refine ⟨fun t ht => h.1 t (List.mem_of_mem_tail ht), ?_⟩
  obtain ⟨a, ha⟩ := h.2
  cases ts with
  | nil => simp at ha
  | cons t r =>
    cases r with
    | nil =>
      simp only [List.getLast?_singleton, Option.some.injEq] at ha
      subst ha
      exact absurd rfl hk
    | cons t2 r2 => exact ⟨a, by simpa [List.getLast?_cons_cons] using ha⟩
theorem see_kind {s : List UInt8} {ts : List Tok} (h : seeB s ts = true) : headKind ts ≠ 4 := by
  simp only [seeB, Bool.and_eq_true, bne_iff_ne] at h
  exact h.2
mutual
/-- An expression that stands bare, so deep. -/
def Fit : Ex → Nat → Prop
  | .num _ n, d => d ≤ 12 ∧ 0 ≤ n ∧ n < 9223372036854775808
  | .var _ s, d => d ≤ 12 ∧ NameOk s
  | .bin _ op l r, d => (∃ k, k < 6 ∧ op ∈ levelList.getD k []) ∧ (if levelB l < lvlFrom levelList 0 op then d ≤ 12 ∧ Fit l (d + 1) else Fit l d) ∧ (if levelB r < lvlFrom levelList 0 op + 1 then d ≤ 12 ∧ Fit r (d + 1) else Fit r d)
  | .un _ op x, d => d ≤ 12 ∧ (op = [45] ∨ op = [33]) ∧ (if levelB x < 6 then d + 1 ≤ 12 ∧ Fit x (d + 2) else Fit x (d + 1))
  | .call _ f args, d => d ≤ 12 ∧ NameOk f ∧ Fits args (d + 1)
  | .new _ x, d => d ≤ 12 ∧ Fit x (d + 1)
  | .len _ x, d => d ≤ 12 ∧ Fit x (d + 1)
  | .item _ x i, d => d ≤ 12 ∧ (if isUn x then Fit x (d + 1) else if levelB x < 6 then d ≤ 12 ∧ Fit x (d + 1) else Fit x d) ∧ Fit i (d + 1)
  | .input _, d => d ≤ 12
def Fits : List Ex → Nat → Prop
  | [], _ => True
  | e :: r, d => Fit e d ∧ Fits r d
end
/-- An expression where one of a level may stand. -/
def FitP (lv : Nat) (e : Ex) (d : Nat) : Prop := if levelB e < lv then d ≤ 12 ∧ Fit e (d + 1) else Fit e d
mutual
theorem Fit.less : (e : Ex) → (d : Nat) → Fit e (d + 1) → Fit e d
  | .num _ n, d, h => by simp only [Fit] at h ⊢; omega
  | .var _ s, d, h => by simp only [Fit] at h ⊢; exact ⟨by omega, h.2⟩
  | .bin _ op l r, d, h => by
    simp only [Fit] at h ⊢
    refine ⟨h.1, ?_, ?_⟩
    · have h2 := h.2.1
      split
      · rename_i hc; rw [if_pos hc] at h2; exact ⟨by omega, Fit.less l _ h2.2⟩
      · rename_i hc; rw [if_neg hc] at h2; exact Fit.less l _ h2
    · have h2 := h.2.2
      split
      · rename_i hc; rw [if_pos hc] at h2; exact ⟨by omega, Fit.less r _ h2.2⟩
      · rename_i hc; rw [if_neg hc] at h2; exact Fit.less r _ h2
  | .un _ op x, d, h => by
    simp only [Fit] at h ⊢
    refine ⟨by omega, h.2.1, ?_⟩
    have h2 := h.2.2
    split
    · rename_i hc; rw [if_pos hc] at h2; exact ⟨by omega, Fit.less x _ h2.2⟩
    · rename_i hc; rw [if_neg hc] at h2; exact Fit.less x _ h2
  | .call _ f args, d, h => by simp only [Fit] at h ⊢; exact ⟨by omega, h.2.1, Fits.less args _ h.2.2⟩
  | .new _ x, d, h => by simp only [Fit] at h ⊢; exact ⟨by omega, Fit.less x _ h.2⟩
  | .len _ x, d, h => by simp only [Fit] at h ⊢; exact ⟨by omega, Fit.less x _ h.2⟩
  | .item _ x i, d, h => by
    simp only [Fit] at h ⊢
    refine ⟨by omega, ?_, Fit.less i _ h.2.2⟩
    have h2 := h.2.1
    split
    · rename_i hc; rw [if_pos hc] at h2; exact Fit.less x _ h2
    · rename_i hc
      rw [if_neg hc] at h2
      split
      · rename_i hc2; rw [if_pos hc2] at h2; exact ⟨by omega, Fit.less x _ h2.2⟩
      · rename_i hc2; rw [if_neg hc2] at h2; exact Fit.less x _ h2
  | .input _, d, h => by simp only [Fit] at h ⊢; omega
theorem Fits.less : (l : List Ex) → (d : Nat) → Fits l (d + 1) → Fits l d
  | [], d, h => trivial
  | e :: r, d, h => by simp only [Fits] at h ⊢; exact ⟨Fit.less e d h.1, Fits.less r d h.2⟩
end
theorem fitP_of {lv d : Nat} {e : Ex} (hd : d ≤ 12) (h : Fit e (d + 1)) : FitP lv e d := by
  unfold FitP
  split
  · exact ⟨hd, h⟩
  · exact Fit.less e d h
theorem FitP.down {lv d : Nat} {e : Ex} (h : FitP (lv + 1) e d) : FitP lv e d := by
  unfold FitP at h ⊢
  split
  · rw [if_pos (by omega)] at h; exact h
  · split at h
    · exact Fit.less e d h.2
    · exact h
def parN (lv : Nat) (e : Ex) : Nat := if levelB e < lv then 2 else 0
mutual
/-- How many tokens an expression is spelled with. -/
def cnt : Ex → Nat
  | .num .. => 1
  | .var .. => 1
  | .bin _ op l r => cnt l + parN (lvlFrom levelList 0 op) l + 1 + cnt r + parN (lvlFrom levelList 0 op + 1) r
  | .un _ _ x => 1 + cnt x + parN 6 x
  | .call _ _ args => 1 + 2 + cnts args
  | .new _ x => 3 + cnt x
  | .len _ x => 3 + cnt x
  | .item _ x i => (cnt x + if isUn x then 2 else parN 6 x) + 2 + cnt i
  | .input .. => 3
/-- Arguments, with a mark between two. -/
def cnts : List Ex → Nat
  | [] => 0
  | e :: r => cnt e + (match r with | [] => 0 | _ :: _ => 1 + cnts r)
end
theorem cnts_append : (l : List Ex) → (e : Ex) → cnts (l ++ [e]) = cnts l + (if l = [] then 0 else 1) + cnt e
  | [], e => by simp [cnts]
  | [a], e => by simp [cnts]; omega
  | a :: b :: r, e => by
    have := cnts_append (b :: r) e
    simp only [List.cons_append, cnts] at this ⊢
    simp only [List.cons_append, reduceCtorEq, if_false] at this ⊢
    omega
theorem Fits.append : (l : List Ex) → (e : Ex) → (d : Nat) → Fits l d → Fit e d → Fits (l ++ [e]) d
  | [], e, d, h, he => ⟨he, trivial⟩
  | a :: r, e, d, h, he => by simp only [List.cons_append, Fits] at h ⊢; exact ⟨h.1, Fits.append r e d h.2 he⟩
/-- A mark of a level is of no other level. -/
theorem level_of {k : Nat} {op : List UInt8} (hk : k < 6) (h : op ∈ levelList.getD k []) : lvlFrom levelList 0 op = k := by
  obtain rfl | rfl | rfl | rfl | rfl | rfl : k = 0 ∨ k = 1 ∨ k = 2 ∨ k = 3 ∨ k = 4 ∨ k = 5 := by omega
  all_goals
    simp only [levelList, List.getD_cons_zero, List.getD_cons_succ, List.mem_cons, List.not_mem_nil, or_false] at h
    rcases h with rfl | rfl | rfl | rfl <;> decide
theorem opP_mem {level : Nat} {r : List Tok} (h : opP level r ≠ []) : opP level r ∈ levelList.getD level [] := by
  unfold opP at h ⊢
  cases hf : (levelList.getD level []).find? (fun m => seeB m r) with
  | none => rw [hf] at h; exact absurd rfl h
  | some m => exact List.mem_of_find?_eq_some hf
end Go.Proofs.YtdgedlhefjmcpaaGreatDoor.TreeP
namespace Go.Proofs.YtdgedlhefjmcpaaGreatDoor.TreeP
set_option linter.unusedVariables false
set_option linter.unusedSimpArgs false
/-- What stands first, with what it cost. -/
def FirstOk (e : Ex) (d c : Nat) : Prop := (levelB e = 6 ∧ isUn e = false ∧ Fit e d ∧ c = cnt e) ∨ (Fit e (d + 1) ∧ c = cnt e + 2)
theorem name_made {ts r : List Tok} {s : List UInt8} (hk : ToksOk ts) (h : nameP ts = some (.ok (s, r))) : NameOk s ∧ 1 + r.length ≤ ts.length ∧ ToksOk r := by
  obtain ⟨hr, hs⟩ := nameP_ok h
  have hl := name_less h
  unfold nameP at h
  split at h
  · exact (failP_ok h).elim
  · rename_i h1
    split at h
    · exact (failP_ok h).elim
    · rename_i h2
      simp only [Bool.or_eq_true, bne_iff_ne, ne_eq, not_or, Decidable.not_not, Bool.not_eq_true] at h1
      cases ts with
      | nil => simp [headKind] at h1
      | cons t rr =>
        have ht := (hk.1 t List.mem_cons_self).1 h1.1
        rw [hr, hs]
        exact ⟨⟨ht.1, ht.2, h1.2, by simpa [headText] using h2⟩, by simp; omega, hk.tail (by rw [h1.1]; decide)⟩
theorem must_made {ts r : List Tok} {s : List UInt8} {u : Unit} (hk : ToksOk ts) (h : must s ts = some (.ok (u, r))) : 1 + r.length ≤ ts.length ∧ ToksOk r := by
  have := must_less h
  have hs := (must_ok h).2
  rw [(must_ok h).1] at this ⊢
  exact ⟨by omega, hk.tail (see_kind hs)⟩
structure MadeF (f : Nat) : Prop where
  expr : ∀ {lv d ts e r}, lv ≤ 6 → ToksOk ts → exprF f lv d ts = some (.ok (e, r)) → FitP lv e d ∧ cnt e + parN lv e + r.length ≤ ts.length ∧ ToksOk r
  bin : ∀ {lv d a x ts e r}, lv < 6 → ToksOk ts → FitP lv x d → binF f lv d a x ts = some (.ok (e, r)) → FitP lv e d ∧ cnt e + parN lv e + r.length ≤ cnt x + parN lv x + ts.length ∧ ToksOk r
  unary : ∀ {d ts e r}, ToksOk ts → unaryF f d ts = some (.ok (e, r)) → FitP 6 e d ∧ cnt e + parN 6 e + r.length ≤ ts.length ∧ ToksOk r
  item : ∀ {d a x c ts e r}, d ≤ 12 → ToksOk ts → FirstOk x d c → itemF f d a x ts = some (.ok (e, r)) → ∃ c', FirstOk e d c' ∧ c' + r.length ≤ c + ts.length ∧ ToksOk r
  alone : ∀ {d ts e r}, d ≤ 12 → ToksOk ts → aloneF f d ts = some (.ok (e, r)) → Fit e (d + 1) ∧ cnt e + 2 + r.length ≤ ts.length ∧ ToksOk r
  first : ∀ {d ts e r}, d ≤ 12 → ToksOk ts → firstF f d ts = some (.ok (e, r)) → ∃ c, FirstOk e d c ∧ c + r.length ≤ ts.length ∧ ToksOk r
  args : ∀ {d ts l r}, d ≤ 12 → ToksOk ts → argsF f d ts = some (.ok (l, r)) → Fits l (d + 1) ∧ 2 + cnts l + r.length ≤ ts.length ∧ ToksOk r
  rest : ∀ {d b l ts l' r}, d ≤ 12 → ToksOk ts → Fits l (d + 1) → (b = true ↔ l = []) → restF f d b l ts = some (.ok (l', r)) → Fits l' (d + 1) ∧ 1 + cnts l' + r.length ≤ cnts l + ts.length ∧ ToksOk r
theorem parN_le (lv : Nat) (e : Ex) : parN lv e ≤ 2 := by unfold parN; split <;> omega
theorem first_par {e : Ex} {d c : Nat} (hd : d ≤ 12) (h : FirstOk e d c) : FitP 6 e d ∧ cnt e + parN 6 e ≤ c := by
  rcases h with ⟨h1, h2, h3, rfl⟩ | ⟨h1, rfl⟩
  · unfold FitP parN
    rw [if_neg (by omega), if_neg (by omega)]
    exact ⟨h3, Nat.le_refl _⟩
  · exact ⟨fitP_of hd h1, by have := parN_le 6 e; omega⟩
theorem parN_mono {lv : Nat} (e : Ex) : parN lv e ≤ parN (lv + 1) e := by unfold parN; split <;> split <;> omega
theorem see_made {ts : List Tok} {s : List UInt8} (hk : ToksOk ts) (h : seeB s ts = true) : 1 + ts.tail.length ≤ ts.length ∧ ToksOk ts.tail := ⟨by have := see_less h; omega, hk.tail (see_kind h)⟩
theorem made : (f : Nat) → MadeF f
  | 0 => ⟨fun _ _ h => by simp [exprF] at h, fun _ _ _ h => by simp [binF] at h, fun _ h => by simp [unaryF] at h, fun _ _ _ h => by simp [itemF] at h, fun _ _ h => by simp [aloneF] at h, fun _ _ h => by simp [firstF] at h, fun _ _ h => by simp [argsF] at h, fun _ _ _ _ h => by simp [restF] at h⟩
  | f + 1 => by
    have ih := made f
    refine ⟨?_, ?_, ?_, ?_, ?_, ?_, ?_, ?_⟩
    · intro lv d ts e r hlv hk h
      simp only [exprF] at h
      split at h
      · rename_i h6
        subst h6
        exact ih.unary hk h
      · rename_i h6
        obtain ⟨x, t, h1, h2⟩ := andThen_ok h
        obtain ⟨a1, a2, a3⟩ := ih.expr (by omega) hk h1
        obtain ⟨b1, b2, b3⟩ := ih.bin (by omega) a3 a1.down h2
        have := parN_mono (lv := lv) x
        exact ⟨b1, by omega, b3⟩
    · intro lv d a x ts e r hlv hk hx h
      simp only [binF] at h
      split at h
      · obtain ⟨rfl, rfl⟩ := okP_ok h
        exact ⟨hx, Nat.le_refl _, hk⟩
      · rename_i hop
        obtain ⟨y, t, h1, h2⟩ := andThen_ok h
        have hs := (show seeB (opP lv ts) ts = true from by
          unfold opP at hop ⊢
          cases hf : (levelList.getD lv []).find? (fun m => seeB m ts) with
          | none => rw [hf] at hop; exact absurd rfl hop
          | some m => exact List.find?_some (p := fun m => seeB m ts) hf)
        obtain ⟨s1, s2⟩ := see_made hk hs
        obtain ⟨a1, a2, a3⟩ := ih.expr (by omega) s2 h1
        have hmem := opP_mem hop
        have hlev := level_of hlv hmem
        have hfit : Fit (.bin a (opP lv ts) x y) d := by
          simp only [Fit]
          rw [hlev]
          exact ⟨⟨lv, hlv, hmem⟩, hx, a1⟩
        have hfp : FitP lv (.bin a (opP lv ts) x y) d := by
          unfold FitP
          rw [if_neg (by simp only [levelB]; omega)]
          exact hfit
        obtain ⟨b1, b2, b3⟩ := ih.bin hlv a3 hfp h2
        have hc : cnt (.bin a (opP lv ts) x y) = cnt x + parN lv x + 1 + cnt y + parN (lv + 1) y := by simp only [cnt]; rw [hlev]
        have hp : parN lv (.bin a (opP lv ts) x y) = 0 := by
          unfold parN
          rw [if_neg (by simp only [levelB]; omega)]
        exact ⟨b1, by omega, b3⟩
    · intro d ts e r hk h
      simp only [unaryF] at h
      split at h
      · exact (failP_ok h).elim
      · rename_i hd
        have un : ∀ (op : List UInt8), (op = [45] ∨ op = [33]) → seeB op ts = true → ∀ {x t}, unaryF f (d + 1) ts.tail = some (.ok (x, t)) → okP (Ex.un (headAt ts) op x) t = some (.ok (e, r)) → FitP 6 e d ∧ cnt e + parN 6 e + r.length ≤ ts.length ∧ ToksOk r := by
          intro op hop hs x t h1 h2
          obtain ⟨rfl, rfl⟩ := okP_ok h2
          obtain ⟨s1, s2⟩ := see_made hk hs
          obtain ⟨a1, a2, a3⟩ := ih.unary s2 h1
          refine ⟨?_, ?_, a3⟩
          · unfold FitP
            rw [if_neg (by simp [levelB])]
            simp only [Fit]
            refine ⟨by omega, hop, ?_⟩
            unfold FitP at a1
            exact a1
          · simp only [cnt]
            unfold parN at a2 ⊢
            rw [if_neg (by simp [levelB] : ¬ levelB (Ex.un (headAt ts) op x) < 6)]
            omega
        split at h
        · rename_i hs
          obtain ⟨x, t, h1, h2⟩ := andThen_ok h
          exact un [45] (Or.inl rfl) hs h1 h2
        · split at h
          · rename_i hs
            obtain ⟨x, t, h1, h2⟩ := andThen_ok h
            exact un [33] (Or.inr rfl) hs h1 h2
          · obtain ⟨x, t, h1, h2⟩ := andThen_ok h
            obtain ⟨c, a1, a2, a3⟩ := ih.first (by omega) hk h1
            obtain ⟨c', b1, b2, b3⟩ := ih.item (by omega) a3 a1 h2
            obtain ⟨p1, p2⟩ := first_par (by omega) b1
            exact ⟨p1, by omega, b3⟩
    · intro d a x c ts e r hd hk hx h
      simp only [itemF] at h
      split at h
      · rename_i hs
        obtain ⟨s1, s2⟩ := see_made hk hs
        obtain ⟨i, t, h1, h2⟩ := andThen_ok h
        obtain ⟨u, t2, h3, h4⟩ := andThen_ok h2
        obtain ⟨a1, a2, a3⟩ := ih.expr (by omega) s2 h1
        obtain ⟨m1, m2⟩ := must_made a3 h3
        have hi : Fit i (d + 1) := by
          unfold FitP at a1
          rwa [if_neg (by omega)] at a1
        have hpi : parN 0 i = 0 := by unfold parN; rw [if_neg (by omega)]
        obtain ⟨p1, p2⟩ := first_par hd hx
        have hfit : FirstOk (.item a x i) d (cnt (.item a x i)) := by
          refine Or.inl ⟨rfl, rfl, ?_, rfl⟩
          simp only [Fit]
          refine ⟨hd, ?_, hi⟩
          split
          · rename_i hu
            rcases hx with ⟨_, h9, _⟩ | ⟨h9, _⟩
            · rw [h9] at hu; cases hu
            · exact h9
          · exact p1
        obtain ⟨c', b1, b2, b3⟩ := ih.item hd m2 hfit h4
        refine ⟨c', b1, ?_, b3⟩
        have hc : cnt (.item a x i) ≤ c + 2 + cnt i := by
          simp only [cnt]
          split
          · rename_i hu
            rcases hx with ⟨_, h9, _⟩ | ⟨h9, rfl⟩
            · rw [h9] at hu; cases hu
            · omega
          · omega
        omega
      · obtain ⟨rfl, rfl⟩ := okP_ok h
        exact ⟨c, hx, Nat.le_refl _, hk⟩
    · intro d ts e r hd hk h
      simp only [aloneF] at h
      obtain ⟨u, t, h1, h2⟩ := andThen_ok h
      obtain ⟨y, t2, h3, h4⟩ := andThen_ok h2
      obtain ⟨u2, t3, h5, h6⟩ := andThen_ok h4
      obtain ⟨rfl, rfl⟩ := okP_ok h6
      obtain ⟨m1, m2⟩ := must_made hk h1
      obtain ⟨a1, a2, a3⟩ := ih.expr (by omega) m2 h3
      obtain ⟨n1, n2⟩ := must_made a3 h5
      unfold FitP at a1
      rw [if_neg (by omega)] at a1
      exact ⟨a1, by omega, n2⟩
    · intro d ts e r hd hk h
      simp only [firstF] at h
      split at h
      · rename_i h2k
        split at h
        · rename_i hn
          obtain ⟨rfl, rfl⟩ := okP_ok h
          have hl : 1 + ts.tail.length ≤ ts.length := by
            cases ts with
            | nil => simp [headKind] at h2k
            | cons t r => simp; omega
          exact ⟨1, Or.inl ⟨rfl, rfl, by simp only [Fit]; omega, rfl⟩, hl, hk.tail (by rw [h2k]; decide)⟩
        · exact (failP_ok h).elim
      · split at h
        · obtain ⟨a1, a2, a3⟩ := ih.alone hd hk h
          exact ⟨cnt e + 2, Or.inr ⟨a1, rfl⟩, by omega, a3⟩
        · split at h
          · rename_i hs
            obtain ⟨s1, s2⟩ := see_made hk hs
            obtain ⟨x, t, h1, h2⟩ := andThen_ok h
            obtain ⟨rfl, rfl⟩ := okP_ok h2
            obtain ⟨a1, a2, a3⟩ := ih.alone hd s2 h1
            exact ⟨_, Or.inl ⟨rfl, rfl, by simp only [Fit]; exact ⟨hd, a1⟩, rfl⟩, by simp only [cnt]; omega, a3⟩
          · split at h
            · rename_i hs
              obtain ⟨s1, s2⟩ := see_made hk hs
              obtain ⟨x, t, h1, h2⟩ := andThen_ok h
              obtain ⟨rfl, rfl⟩ := okP_ok h2
              obtain ⟨a1, a2, a3⟩ := ih.alone hd s2 h1
              exact ⟨_, Or.inl ⟨rfl, rfl, by simp only [Fit]; exact ⟨hd, a1⟩, rfl⟩, by simp only [cnt]; omega, a3⟩
            · split at h
              · rename_i hs
                obtain ⟨s1, s2⟩ := see_made hk hs
                obtain ⟨u, t, h1, h2⟩ := andThen_ok h
                obtain ⟨u2, t2, h3, h4⟩ := andThen_ok h2
                obtain ⟨rfl, rfl⟩ := okP_ok h4
                obtain ⟨m1, m2⟩ := must_made s2 h1
                obtain ⟨n1, n2⟩ := must_made m2 h3
                exact ⟨3, Or.inl ⟨rfl, rfl, by simp only [Fit]; exact hd, rfl⟩, by omega, n2⟩
              · obtain ⟨n, t, h1, h2⟩ := andThen_ok h
                obtain ⟨m1, m2, m3⟩ := name_made hk h1
                split at h2
                · obtain ⟨l, t2, h3, h4⟩ := andThen_ok h2
                  obtain ⟨rfl, rfl⟩ := okP_ok h4
                  obtain ⟨a1, a2, a3⟩ := ih.args hd m3 h3
                  exact ⟨_, Or.inl ⟨rfl, rfl, by simp only [Fit]; exact ⟨hd, m1, a1⟩, rfl⟩, by simp only [cnt]; omega, a3⟩
                · obtain ⟨rfl, rfl⟩ := okP_ok h2
                  exact ⟨1, Or.inl ⟨rfl, rfl, by simp only [Fit]; exact ⟨hd, m1⟩, rfl⟩, by omega, m3⟩
    · intro d ts l r hd hk h
      simp only [argsF] at h
      obtain ⟨u, t, h1, h2⟩ := andThen_ok h
      obtain ⟨m1, m2⟩ := must_made hk h1
      obtain ⟨a1, a2, a3⟩ := ih.rest hd m2 (by simp only [Fits]) (by simp) h2
      exact ⟨a1, by simp only [cnts] at a2; omega, a3⟩
    · intro d b l ts l' r hd hk hl hb h
      simp only [restF] at h
      split at h
      · rename_i hs
        obtain ⟨s1, s2⟩ := see_made hk hs
        obtain ⟨rfl, rfl⟩ := okP_ok h
        exact ⟨hl, by omega, s2⟩
      · obtain ⟨u, t, h1, h2⟩ := andThen_ok h
        obtain ⟨y, t2, h3, h4⟩ := andThen_ok h2
        have ht : (if l = [] then 0 else 1) + t.length ≤ ts.length ∧ ToksOk t := by
          split at h1
          · rename_i hbt
            rw [(okP_ok h1).2, if_pos (hb.1 hbt)]
            exact ⟨by omega, hk⟩
          · obtain ⟨m1, m2⟩ := must_made hk h1
            exact ⟨by split <;> omega, m2⟩
        obtain ⟨a1, a2, a3⟩ := ih.expr (by omega) ht.2 h3
        have hy : Fit y (d + 1) := by
          unfold FitP at a1
          rwa [if_neg (by omega)] at a1
        have hpy : parN 0 y = 0 := by unfold parN; rw [if_neg (by omega)]
        obtain ⟨b1, b2, b3⟩ := ih.rest hd a3 (Fits.append l y (d + 1) hl hy) (by simp) h4
        rw [cnts_append] at b2
        exact ⟨b1, by have := ht.1; omega, b3⟩
end Go.Proofs.YtdgedlhefjmcpaaGreatDoor.TreeP
namespace Go.Proofs.YtdgedlhefjmcpaaGreatDoor.TreeP
set_option linter.unusedVariables false
set_option linter.unusedSimpArgs false
mutual
/-- A statement, so deep. -/
def FitS : St → Nat → Prop
  | .var _ s v, _ => NameOk s ∧ Fit v 0
  | .set _ s v, _ => NameOk s ∧ Fit v 0
  | .put _ s i v, _ => NameOk s ∧ Fit i 1 ∧ Fit v 0
  | .cond _ v t e, d => Fit v 1 ∧ d + 1 ≤ 12 ∧ FitSs t (d + 1) ∧ FitSs e (d + 1)
  | .loop _ v t, d => Fit v 1 ∧ d + 1 ≤ 12 ∧ FitSs t (d + 1)
  | .ret _ v, _ => Fit v 0
  | .print _ v, _ => Fit v 0
  | .call _ v, _ => (∃ a f l, v = .call a f l) ∧ Fit v 0
def FitSs : List St → Nat → Prop
  | [], _ => True
  | s :: r, d => FitS s d ∧ FitSs r d
end
mutual
def cntS : St → Nat
  | .var _ s v => 4 + cnt v
  | .set _ s v => 3 + cnt v
  | .put _ s i v => 5 + cnt i + cnt v
  | .cond _ v t e => 5 + cnt v + cntSs t + (if e.isEmpty then 0 else 3 + cntSs e)
  | .loop _ v t => 5 + cnt v + cntSs t
  | .ret _ v => 2 + cnt v
  | .print _ v => 2 + cnt v
  | .call _ v => 1 + cnt v
def cntSs : List St → Nat
  | [] => 0
  | s :: r => cntS s + cntSs r
end
theorem cntSs_append : (l : List St) → (s : St) → cntSs (l ++ [s]) = cntSs l + cntS s
  | [], s => by simp [cntSs]
  | a :: r, s => by simp only [List.cons_append, cntSs, cntSs_append r s]; omega
theorem FitSs.append : (l : List St) → (s : St) → (d : Nat) → FitSs l d → FitS s d → FitSs (l ++ [s]) d
  | [], s, d, h, hs => ⟨hs, trivial⟩
  | a :: r, s, d, h, hs => by simp only [List.cons_append, FitSs] at h ⊢; exact ⟨h.1, FitSs.append r s d h.2 hs⟩
theorem expr_made {f d : Nat} {ts r : List Tok} {e : Ex} (hk : ToksOk ts) (h : exprF f 0 d ts = some (.ok (e, r))) : Fit e d ∧ cnt e + r.length ≤ ts.length ∧ ToksOk r := by
  obtain ⟨a1, a2, a3⟩ := (made f).expr (by omega) hk h
  unfold FitP at a1
  rw [if_neg (by omega)] at a1
  exact ⟨a1, by omega, a3⟩
structure MadeS (f : Nat) : Prop where
  block : ∀ {d ts l r}, ToksOk ts → blockF f d ts = some (.ok (l, r)) → d ≤ 12 ∧ FitSs l d ∧ 2 + cntSs l + r.length ≤ ts.length ∧ ToksOk r
  stmts : ∀ {d l ts l' r}, ToksOk ts → FitSs l d → stmtsF f d l ts = some (.ok (l', r)) → FitSs l' d ∧ 1 + cntSs l' + r.length ≤ cntSs l + ts.length ∧ ToksOk r
  stmt : ∀ {d ts s r}, ToksOk ts → stmtF f d ts = some (.ok (s, r)) → FitS s d ∧ cntS s + r.length ≤ ts.length ∧ ToksOk r
  named : ∀ {d ts s r}, ToksOk ts → namedF f ts = some (.ok (s, r)) → FitS s d ∧ cntS s + r.length ≤ ts.length + 1 ∧ ToksOk r
theorem madeS : (f : Nat) → MadeS f
  | 0 => ⟨fun _ h => by simp [blockF] at h, fun _ _ h => by simp [stmtsF] at h, fun _ h => by simp [stmtF] at h, fun _ h => by simp [namedF] at h⟩
  | f + 1 => by
    have ih := madeS f
    have e := made f
    refine ⟨?_, ?_, ?_, ?_⟩
    · intro d ts l r hk h
      simp only [blockF] at h
      split at h
      · exact (failP_ok h).elim
      · obtain ⟨u, t, h1, h2⟩ := andThen_ok h
        obtain ⟨m1, m2⟩ := must_made hk h1
        obtain ⟨a1, a2, a3⟩ := ih.stmts (d := d) m2 (by simp only [FitSs]) h2
        simp only [cntSs] at a2
        exact ⟨by omega, a1, by omega, a3⟩
    · intro d l ts l' r hk hl h
      simp only [stmtsF] at h
      split at h
      · rename_i hs
        obtain ⟨s1, s2⟩ := see_made hk hs
        obtain ⟨rfl, rfl⟩ := okP_ok h
        exact ⟨hl, by omega, s2⟩
      · obtain ⟨s, t, h1, h2⟩ := andThen_ok h
        obtain ⟨a1, a2, a3⟩ := ih.stmt (d := d) hk h1
        obtain ⟨b1, b2, b3⟩ := ih.stmts a3 (FitSs.append l s d hl a1) h2
        rw [cntSs_append] at b2
        exact ⟨b1, by omega, b3⟩
    · intro d ts s r hk h
      simp only [stmtF] at h
      split at h
      · rename_i hs
        obtain ⟨s1, s2⟩ := see_made hk hs
        obtain ⟨v, t, h1, h2⟩ := andThen_ok h
        obtain ⟨b, t2, h3, h4⟩ := andThen_ok h2
        obtain ⟨a1, a2, a3⟩ := e.alone (by omega) s2 h1
        obtain ⟨b0, b1, b2, b3⟩ := ih.block a3 h3
        split at h4
        · rename_i he
          obtain ⟨e1, e2⟩ := see_made b3 he
          obtain ⟨b', t3, h5, h6⟩ := andThen_ok h4
          obtain ⟨rfl, rfl⟩ := okP_ok h6
          obtain ⟨c0, c1, c2, c3⟩ := ih.block e2 h5
          refine ⟨by simp only [FitS]; exact ⟨a1, b0, b1, c1⟩, ?_, c3⟩
          simp only [cntS]
          split <;> omega
        · obtain ⟨rfl, rfl⟩ := okP_ok h4
          refine ⟨by simp only [FitS, FitSs]; exact ⟨a1, b0, b1, trivial⟩, ?_, b3⟩
          simp only [cntS, List.isEmpty_nil, if_true]
          omega
      · split at h
        · rename_i hs
          obtain ⟨s1, s2⟩ := see_made hk hs
          obtain ⟨v, t, h1, h2⟩ := andThen_ok h
          obtain ⟨b, t2, h3, h4⟩ := andThen_ok h2
          obtain ⟨a1, a2, a3⟩ := e.alone (by omega) s2 h1
          obtain ⟨b0, b1, b2, b3⟩ := ih.block a3 h3
          obtain ⟨rfl, rfl⟩ := okP_ok h4
          exact ⟨by simp only [FitS]; exact ⟨a1, b0, b1⟩, by simp only [cntS]; omega, b3⟩
        · split at h
          · rename_i hs
            obtain ⟨s1, s2⟩ := see_made hk hs
            obtain ⟨n, t, h1, h2⟩ := andThen_ok h
            obtain ⟨u, t2, h3, h4⟩ := andThen_ok h2
            obtain ⟨v, t3, h5, h6⟩ := andThen_ok h4
            obtain ⟨u2, t4, h7, h8⟩ := andThen_ok h6
            obtain ⟨rfl, rfl⟩ := okP_ok h8
            obtain ⟨n1, n2, n3⟩ := name_made s2 h1
            obtain ⟨m1, m2⟩ := must_made n3 h3
            obtain ⟨a1, a2, a3⟩ := expr_made m2 h5
            obtain ⟨p1, p2⟩ := must_made a3 h7
            exact ⟨by simp only [FitS]; exact ⟨n1, a1⟩, by simp only [cntS]; omega, p2⟩
          · split at h
            · rename_i hs
              obtain ⟨s1, s2⟩ := see_made hk hs
              obtain ⟨v, t, h1, h2⟩ := andThen_ok h
              obtain ⟨u, t2, h3, h4⟩ := andThen_ok h2
              obtain ⟨rfl, rfl⟩ := okP_ok h4
              obtain ⟨a1, a2, a3⟩ := expr_made s2 h1
              obtain ⟨p1, p2⟩ := must_made a3 h3
              exact ⟨by simp only [FitS]; exact a1, by simp only [cntS]; omega, p2⟩
            · split at h
              · rename_i hs
                obtain ⟨s1, s2⟩ := see_made hk hs
                obtain ⟨v, t, h1, h2⟩ := andThen_ok h
                obtain ⟨u, t2, h3, h4⟩ := andThen_ok h2
                obtain ⟨rfl, rfl⟩ := okP_ok h4
                obtain ⟨a1, a2, a3⟩ := expr_made s2 h1
                obtain ⟨p1, p2⟩ := must_made a3 h3
                exact ⟨by simp only [FitS]; exact a1, by simp only [cntS]; omega, p2⟩
              · obtain ⟨v, t, h1, h2⟩ := andThen_ok h
                obtain ⟨u, t2, h3, h4⟩ := andThen_ok h2
                obtain ⟨rfl, rfl⟩ := okP_ok h4
                obtain ⟨a1, a2, a3⟩ := ih.named (d := d) hk h1
                obtain ⟨p1, p2⟩ := must_made a3 h3
                exact ⟨a1, by omega, p2⟩
    · intro d ts s r hk h
      simp only [namedF] at h
      obtain ⟨n, t, h1, h2⟩ := andThen_ok h
      obtain ⟨n1, n2, n3⟩ := name_made hk h1
      split at h2
      · obtain ⟨l, t2, h3, h4⟩ := andThen_ok h2
        obtain ⟨rfl, rfl⟩ := okP_ok h4
        obtain ⟨a1, a2, a3⟩ := e.args (by omega) n3 h3
        exact ⟨by simp only [FitS, Fit]; exact ⟨⟨_, _, _, rfl⟩, by omega, n1, a1⟩, by simp only [cntS, cnt]; omega, a3⟩
      · split at h2
        · rename_i hs
          obtain ⟨s1, s2⟩ := see_made n3 hs
          obtain ⟨i, t2, h3, h4⟩ := andThen_ok h2
          obtain ⟨u, t3, h5, h6⟩ := andThen_ok h4
          obtain ⟨u2, t4, h7, h8⟩ := andThen_ok h6
          obtain ⟨v, t5, h9, h10⟩ := andThen_ok h8
          obtain ⟨rfl, rfl⟩ := okP_ok h10
          obtain ⟨a1, a2, a3⟩ := expr_made s2 h3
          obtain ⟨m1, m2⟩ := must_made a3 h5
          obtain ⟨k1, k2⟩ := must_made m2 h7
          obtain ⟨b1, b2, b3⟩ := expr_made k2 h9
          exact ⟨by simp only [FitS]; exact ⟨n1, a1, b1⟩, by simp only [cntS]; omega, b3⟩
        · obtain ⟨u, t2, h3, h4⟩ := andThen_ok h2
          obtain ⟨v, t3, h5, h6⟩ := andThen_ok h4
          obtain ⟨rfl, rfl⟩ := okP_ok h6
          obtain ⟨m1, m2⟩ := must_made n3 h3
          obtain ⟨a1, a2, a3⟩ := expr_made m2 h5
          exact ⟨by simp only [FitS]; exact ⟨n1, a1⟩, by simp only [cntS]; omega, a3⟩
/-- A function. -/
def FitF (x : Fn) : Prop := NameOk x.name ∧ (∀ p ∈ x.params, NameOk p.1 ∧ (p.2 = 1 ∨ p.2 = 2)) ∧ FitSs x.body 0
def cntPs : List (List UInt8 × Int) → Nat
  | [] => 0
  | _ :: r => 3 + (match r with | [] => 0 | _ :: _ => 1 + cntPs r)
theorem cntPs_append : (l : List (List UInt8 × Int)) → (p : List UInt8 × Int) → cntPs (l ++ [p]) = cntPs l + (if l = [] then 0 else 1) + 3
  | [], p => by simp [cntPs]
  | [a], p => by simp [cntPs]
  | a :: b :: r, p => by
    have := cntPs_append (b :: r) p
    simp only [List.cons_append, cntPs, reduceCtorEq, if_false] at this ⊢
    omega
def cntF (x : Fn) : Nat := 6 + cntPs x.params + cntSs x.body
def cntFs : List Fn → Nat
  | [] => 0
  | x :: r => cntF x + cntFs r
theorem cntFs_append : (l : List Fn) → (x : Fn) → cntFs (l ++ [x]) = cntFs l + cntF x
  | [], x => by simp [cntFs]
  | a :: r, x => by simp only [List.cons_append, cntFs, cntFs_append r x]; omega
theorem params_made : (f : Nat) → (b : Bool) → (l : List (List UInt8 × Int)) → (ts : List Tok) → {l' : List (List UInt8 × Int)} → {r : List Tok} → ToksOk ts → (∀ p ∈ l, NameOk p.1 ∧ (p.2 = 1 ∨ p.2 = 2)) → (b = true ↔ l = []) → paramsF f b l ts = some (.ok (l', r)) → (∀ p ∈ l', NameOk p.1 ∧ (p.2 = 1 ∨ p.2 = 2)) ∧ 1 + cntPs l' + r.length ≤ cntPs l + ts.length ∧ ToksOk r
  | 0, _, _, _, l', r, _, _, _, h => by simp [paramsF] at h
  | f + 1, b, l, ts, l', r, hk, hl, hb, h => by
    simp only [paramsF] at h
    split at h
    · rename_i hs
      obtain ⟨s1, s2⟩ := see_made hk hs
      obtain ⟨rfl, rfl⟩ := okP_ok h
      exact ⟨hl, by omega, s2⟩
    · obtain ⟨u, t, h1, h2⟩ := andThen_ok h
      have ht : (if l = [] then 0 else 1) + t.length ≤ ts.length ∧ ToksOk t := by
        split at h1
        · rename_i hbt
          rw [(okP_ok h1).2, if_pos (hb.1 hbt)]
          exact ⟨by omega, hk⟩
        · obtain ⟨m1, m2⟩ := must_made hk h1
          exact ⟨by split <;> omega, m2⟩
      obtain ⟨n, t2, h3, h4⟩ := andThen_ok h2
      obtain ⟨u2, t3, h5, h6⟩ := andThen_ok h4
      obtain ⟨n1, n2, n3⟩ := name_made ht.2 h3
      obtain ⟨m1, m2⟩ := must_made n3 h5
      have app : ∀ (t : Int), (t = 1 ∨ t = 2) → ∀ p ∈ l ++ [(n, t)], NameOk p.1 ∧ (p.2 = 1 ∨ p.2 = 2) := by
        intro t ht p hp
        rw [List.mem_append, List.mem_singleton] at hp
        rcases hp with hp | rfl
        · exact hl p hp
        · exact ⟨n1, ht⟩
      split at h6
      · rename_i hs
        obtain ⟨s1, s2⟩ := see_made m2 hs
        obtain ⟨b1, b2, b3⟩ := params_made f false _ _ s2 (app 2 (Or.inr rfl)) (by simp) h6
        rw [cntPs_append] at b2
        exact ⟨b1, by have := ht.1; omega, b3⟩
      · obtain ⟨u3, t4, h7, h8⟩ := andThen_ok h6
        obtain ⟨k1, k2⟩ := must_made m2 h7
        obtain ⟨b1, b2, b3⟩ := params_made f false _ _ k2 (app 1 (Or.inl rfl)) (by simp) h8
        rw [cntPs_append] at b2
        exact ⟨b1, by have := ht.1; omega, b3⟩
theorem function_made {f : Nat} {ts r : List Tok} {x : Fn} (hk : ToksOk ts) (h : functionF f ts = some (.ok (x, r))) : FitF x ∧ cntF x + r.length ≤ ts.length ∧ ToksOk r := by
  cases f with
  | zero => simp [functionF] at h
  | succ f =>
    simp only [functionF] at h
    obtain ⟨u, t, h1, h2⟩ := andThen_ok h
    obtain ⟨n, t2, h3, h4⟩ := andThen_ok h2
    obtain ⟨u2, t3, h5, h6⟩ := andThen_ok h4
    obtain ⟨ps, t4, h7, h8⟩ := andThen_ok h6
    obtain ⟨b, t5, h9, h10⟩ := andThen_ok h8
    obtain ⟨rfl, rfl⟩ := okP_ok h10
    obtain ⟨m1, m2⟩ := must_made hk h1
    obtain ⟨n1, n2, n3⟩ := name_made m2 h3
    obtain ⟨k1, k2⟩ := must_made n3 h5
    obtain ⟨p1, p2, p3⟩ := params_made f true [] t3 k2 (fun _ h => nomatch h) (by simp) h7
    obtain ⟨b0, b1, b2, b3⟩ := (madeS f).block p3 h9
    simp only [cntPs] at p2
    exact ⟨⟨n1, p1, b1⟩, by simp only [cntF]; omega, b3⟩
theorem program_made : (f : Nat) → (l : List Fn) → (ts : List Tok) → {l' : List Fn} → {r : List Tok} → ToksOk ts → (∀ x ∈ l, FitF x) → l.length ≤ 12 → programF f l ts = some (.ok (l', r)) → (∀ x ∈ l', FitF x) ∧ l'.length ≤ 12 ∧ cntFs l' + r.length ≤ cntFs l + ts.length ∧ headKind r = 4 ∧ ToksOk r
  | 0, _, _, l', r, _, _, _, h => by simp [programF] at h
  | f + 1, l, ts, l', r, hk, hl, h12, h => by
    simp only [programF] at h
    split at h
    · rename_i h4
      obtain ⟨rfl, rfl⟩ := okP_ok h
      exact ⟨hl, h12, Nat.le_refl _, h4, hk⟩
    · split at h
      · exact (failP_ok h).elim
      · rename_i hn
        obtain ⟨x, t, h1, h2⟩ := andThen_ok h
        obtain ⟨a1, a2, a3⟩ := function_made hk h1
        obtain ⟨b1, b2, b3, b4⟩ := program_made f _ _ a3 (fun y hy => by
          rw [List.mem_append, List.mem_singleton] at hy
          rcases hy with hy | rfl
          · exact hl y hy
          · exact a1) (by simp; omega) h2
        rw [cntFs_append] at b3
        exact ⟨b1, b2, by omega, b4⟩
end Go.Proofs.YtdgedlhefjmcpaaGreatDoor.TreeP
namespace Go.Proofs.YtdgedlhefjmcpaaGreatDoor.TreeP
set_option linter.unusedVariables false
set_option linter.unusedSimpArgs false
def key (t : Tok) : Int × List UInt8 := (t.kind, t.text)
def par (k : List (Int × List UInt8)) : List (Int × List UInt8) := (3, [40]) :: k ++ [(3, [41])]
def parK (lv : Nat) (e : Ex) (k : List (Int × List UInt8)) : List (Int × List UInt8) := if levelB e < lv then par k else k
mutual
def keysE : Ex → List (Int × List UInt8)
  | .num _ n => [(2, Lib.itoa n)]
  | .var _ s => [(1, s)]
  | .bin _ op l r => parK (lvlFrom levelList 0 op) l (keysE l) ++ (3, op) :: parK (lvlFrom levelList 0 op + 1) r (keysE r)
  | .un _ op x => (3, op) :: parK 6 x (keysE x)
  | .call _ f args => (1, f) :: (3, [40]) :: (keysA args ++ [(3, [41])])
  | .new _ x => (1, kNew) :: par (keysE x)
  | .len _ x => (1, kLen) :: par (keysE x)
  | .item _ x i => (if isUn x then par (keysE x) else parK 6 x (keysE x)) ++ (3, [91]) :: (keysE i ++ [(3, [93])])
  | .input _ => (1, kInput) :: par []
def keysA : List Ex → List (Int × List UInt8)
  | [] => []
  | e :: r => keysE e ++ (match r with | [] => [] | _ :: _ => (3, [44]) :: keysA r)
end
mutual
/-- Without places. -/
def stripE : Ex → Ex
  | .num _ n => .num 0 n
  | .var _ s => .var 0 s
  | .bin _ op l r => .bin 0 op (stripE l) (stripE r)
  | .un _ op x => .un 0 op (stripE x)
  | .call _ f args => .call 0 f (stripEs args)
  | .new _ x => .new 0 (stripE x)
  | .len _ x => .len 0 (stripE x)
  | .item _ x i => .item 0 (stripE x) (stripE i)
  | .input _ => .input 0
def stripEs : List Ex → List Ex
  | [] => []
  | e :: r => stripE e :: stripEs r
end
/-- With rounds enough it comes to this. -/
def Ev {α : Type} (F : Nat → PR α) (y : Except (Int × Int) (α × List Tok)) : Prop := ∃ f, ∀ g, f ≤ g → F g = some y
theorem Ev.step {α : Type} {F G : Nat → PR α} {y : Except (Int × Int) (α × List Tok)} (h : ∀ g, F (g + 1) = G g) (hG : Ev G y) : Ev F y := by
  obtain ⟨f, hf⟩ := hG
  refine ⟨f + 1, fun g hg => ?_⟩
  obtain ⟨g, rfl⟩ : ∃ k, g = k + 1 := ⟨g - 1, by omega⟩
  rw [h]
  exact hf g (by omega)
theorem Ev.bind {α β : Type} {P : Nat → PR α} {k : Nat → α → List Tok → PR β} {a : α} {R : List Tok} {y : Except (Int × Int) (β × List Tok)} (h : Ev P (.ok (a, R))) (hk : Ev (fun g => k g a R) y) : Ev (fun g => andThen (P g) (k g)) y := by
  obtain ⟨f1, h1⟩ := h
  obtain ⟨f2, h2⟩ := hk
  refine ⟨max f1 f2, fun g hg => ?_⟩
  simp only
  rw [h1 g (by omega)]
  exact h2 g (by omega)
theorem Ev.pure {α : Type} {F : Nat → PR α} {y : Except (Int × Int) (α × List Tok)} (h : ∀ g, F (g + 1) = some y) : Ev F y := ⟨1, fun g hg => by obtain ⟨g, rfl⟩ : ∃ k, g = k + 1 := ⟨g - 1, by omega⟩; exact h g⟩
theorem Ev.const {α : Type} {y : Except (Int × Int) (α × List Tok)} {x : PR α} (h : x = some y) : Ev (fun _ => x) y := ⟨0, fun _ _ => h⟩
theorem see_key {s : List UInt8} {t : Tok} {R : List Tok} : seeB s (t :: R) = (t.text == s && t.kind != 4) := rfl
theorem split_app {T : List Tok} {a b : List (Int × List UInt8)} (h : T.map key = a ++ b) : ∃ T1 T2, T = T1 ++ T2 ∧ T1.map key = a ∧ T2.map key = b := by
  obtain ⟨T1, T2, h1, h2, h3⟩ := List.map_eq_append_iff.1 h
  exact ⟨T1, T2, h1, h2, h3⟩
theorem split_cons {T : List Tok} {k : Int × List UInt8} {b : List (Int × List UInt8)} (h : T.map key = k :: b) : ∃ t T2, T = t :: T2 ∧ t.kind = k.1 ∧ t.text = k.2 ∧ T2.map key = b := by
  obtain ⟨t, T2, h1, h2, h3⟩ := List.map_eq_cons_iff.1 h
  exact ⟨t, T2, h1, congrArg Prod.fst h2, congrArg Prod.snd h2, h3⟩
theorem split_one {T : List Tok} {k : Int × List UInt8} (h : T.map key = [k]) : ∃ t, T = [t] ∧ t.kind = k.1 ∧ t.text = k.2 := by
  obtain ⟨t, T2, rfl, h1, h2, h3⟩ := split_cons h
  rw [List.map_eq_nil_iff] at h3
  subst h3
  exact ⟨t, rfl, h1, h2⟩
theorem must_see {s : List UInt8} {t : Tok} {R : List Tok} (h1 : t.text = s) (h2 : t.kind ≠ 4) : must s (t :: R) = some (.ok ((), R)) := by
  have hs : seeB s (t :: R) = true := by rw [see_key, h1]; simp [h2]
  unfold must
  rw [hs]
  rfl
def NoBr (R : List Tok) : Prop := seeB [91] R = false
def NoPar (R : List Tok) : Prop := seeB [40] R = false
def NoOp (lv : Nat) (R : List Tok) : Prop := ∀ k, lv ≤ k → k < 6 → opP k R = []
/-- What ends an expression. -/
def endB (s : List UInt8) : Prop := s = [41] ∨ s = [93] ∨ s = [44] ∨ s = [59]
theorem op_none {k : Nat} {t : Tok} {R : List Tok} (hk : k < 6) (h : t.text ∉ levelList.getD k []) : opP k (t :: R) = [] := by
  unfold opP
  cases hf : (levelList.getD k []).find? (fun m => seeB m (t :: R)) with
  | none => rfl
  | some m =>
    have h1 := List.mem_of_find?_eq_some hf
    have h2 : seeB m (t :: R) = true := List.find?_some (p := fun m => seeB m (t :: R)) hf
    rw [see_key, Bool.and_eq_true, beq_iff_eq] at h2
    rw [h2.1] at h
    exact absurd h1 h
theorem end_follow {t : Tok} {R : List Tok} (h : endB t.text) : NoBr (t :: R) ∧ NoPar (t :: R) ∧ NoOp 0 (t :: R) := by
  refine ⟨?_, ?_, ?_⟩
  · unfold NoBr; rw [see_key]; rcases h with h | h | h | h <;> rw [h] <;> rfl
  · unfold NoPar; rw [see_key]; rcases h with h | h | h | h <;> rw [h] <;> rfl
  · intro k _ hk
    apply op_none hk
    obtain rfl | rfl | rfl | rfl | rfl | rfl : k = 0 ∨ k = 1 ∨ k = 2 ∨ k = 3 ∨ k = 4 ∨ k = 5 := by omega
    all_goals rcases h with h | h | h | h <;> rw [h] <;> decide
theorem op_follow {t : Tok} {R : List Tok} {n : Nat} (hn : n < 6) (h : t.text ∈ levelList.getD n []) : NoBr (t :: R) ∧ NoPar (t :: R) ∧ NoOp (n + 1) (t :: R) := by
  have hne : (t.text == [91]) = false ∧ (t.text == [40]) = false := by
    obtain ⟨x, hx⟩ : ∃ x, x = t.text := ⟨_, rfl⟩
    rw [← hx] at h ⊢
    clear hx
    obtain rfl | rfl | rfl | rfl | rfl | rfl : n = 0 ∨ n = 1 ∨ n = 2 ∨ n = 3 ∨ n = 4 ∨ n = 5 := by omega
    all_goals
      simp only [levelList, List.getD_cons_zero, List.getD_cons_succ, List.mem_cons, List.not_mem_nil, or_false] at h
      rcases h with rfl | rfl | rfl | rfl <;> exact ⟨rfl, rfl⟩
  refine ⟨?_, ?_, ?_⟩
  · unfold NoBr
    rw [see_key, hne.1]
    rfl
  · unfold NoPar
    rw [see_key, hne.2]
    rfl
  · intro k hk1 hk
    apply op_none hk
    intro h2
    have e1 := level_of hn h
    have e2 := level_of hk h2
    omega
theorem op_some {t : Tok} {R : List Tok} {n : Nat} (hn : n < 6) (h : t.text ∈ levelList.getD n []) (h4 : t.kind ≠ 4) : opP n (t :: R) = t.text := by
  unfold opP
  cases hf : (levelList.getD n []).find? (fun m => seeB m (t :: R)) with
  | none =>
    rw [List.find?_eq_none] at hf
    have := hf _ h
    rw [see_key] at this
    simp [h4] at this
  | some m =>
    have h2 : seeB m (t :: R) = true := List.find?_some (p := fun m => seeB m (t :: R)) hf
    rw [see_key, Bool.and_eq_true, beq_iff_eq] at h2
    exact h2.1.symm
theorem op_nonempty {n : Nat} {s : List UInt8} (hn : n < 6) (h : s ∈ levelList.getD n []) : s ≠ [] := by
  obtain rfl | rfl | rfl | rfl | rfl | rfl : n = 0 ∨ n = 1 ∨ n = 2 ∨ n = 3 ∨ n = 4 ∨ n = 5 := by omega
  all_goals
    simp only [levelList, List.getD_cons_zero, List.getD_cons_succ, List.mem_cons, List.not_mem_nil, or_false] at h
    rcases h with rfl | rfl | rfl | rfl <;> decide
theorem climb {lv d : Nat} {ts R : List Tok} {e : Ex} (hl : lv < 6) (h : Ev (fun g => exprF g (lv + 1) d ts) (.ok (e, R))) {y : Except (Int × Int) (Ex × List Tok)} (hb : Ev (fun g => binF g lv d (headAt ts) e R) y) : Ev (fun g => exprF g lv d ts) y :=
  Ev.step (fun g => by simp only [exprF]; rw [if_neg (by omega)]) (Ev.bind (k := fun g x r => binF g lv d (headAt ts) x r) h hb)
theorem stay {lv d : Nat} {a : Int} {R : List Tok} {e : Ex} (h : opP lv R = []) : Ev (fun g => binF g lv d a e R) (.ok (e, R)) := Ev.pure fun g => by simp only [binF]; rw [if_pos h]; rfl
/-- From a level down to another, where no mark follows. -/
theorem down {d : Nat} {ts R : List Tok} {e : Ex} : (n lv : Nat) → lv + n ≤ 6 → Ev (fun g => exprF g (lv + n) d ts) (.ok (e, R)) → NoOp lv R → Ev (fun g => exprF g lv d ts) (.ok (e, R))
  | 0, lv, _, h, _ => h
  | n + 1, lv, hl, h, hn => climb (by omega) (down n (lv + 1) (by omega) (by rwa [show lv + 1 + n = lv + (n + 1) by omega]) (fun k h1 h2 => hn k (by omega) h2)) (stay (hn lv (Nat.le_refl _) (by omega)))
theorem six {d : Nat} {ts : List Tok} {y : Except (Int × Int) (Ex × List Tok)} (h : Ev (fun g => unaryF g d ts) y) : Ev (fun g => exprF g 6 d ts) y := Ev.step (fun g => by simp only [exprF, if_true]) h
theorem lvlFrom_le' : (L : List (List (List UInt8))) → (i : Nat) → (op : List UInt8) → lvlFrom L i op = 0 ∨ lvlFrom L i op < i + L.length
  | [], i, op => Or.inl rfl
  | l :: r, i, op => by
    simp only [lvlFrom]
    split
    · exact Or.inr (by simp)
    · rcases lvlFrom_le' r (i + 1) op with h | h
      · exact Or.inl h
      · exact Or.inr (by simp only [List.length_cons]; omega)
theorem levelB_le' (e : Ex) : levelB e ≤ 6 := by
  cases e <;> simp only [levelB] <;> try exact Nat.le_refl _
  rename_i op _ _
  have := lvlFrom_le' levelList 0 op
  have h6 : levelList.length = 6 := rfl
  omega
structure Back (e : Ex) : Prop where
  un : isUn e = true → ∀ d T R, Fit e d → T.map key = keysE e → NoBr R → NoPar R → ∃ e', stripE e' = stripE e ∧ Ev (fun g => unaryF g d (T ++ R)) (.ok (e', R))
  chain : isUn e = false → levelB e = 6 → ∀ d T R, Fit e d → T.map key = keysE e → NoPar R → ∃ e', stripE e' = stripE e ∧ ∀ y, Ev (fun g => itemF g d (headAt (T ++ R)) e' R) y → Ev (fun g => unaryF g d (T ++ R)) y
  bin : levelB e < 6 → ∀ d T R, Fit e d → T.map key = keysE e → NoBr R → NoPar R → NoOp (levelB e + 1) R → ∃ e', stripE e' = stripE e ∧ ∀ y, Ev (fun g => binF g (levelB e) d (headAt (T ++ R)) e' R) y → Ev (fun g => exprF g (levelB e) d (T ++ R)) y
theorem noitem {d : Nat} {a : Int} {R : List Tok} {e : Ex} (h : NoBr R) : Ev (fun g => itemF g d a e R) (.ok (e, R)) := Ev.pure fun g => by simp only [itemF]; rw [if_neg (by rw [h]; simp)]; rfl
/-- At the last level. -/
theorem Back.last {e : Ex} (h : Back e) (h6 : levelB e = 6) {d : Nat} {T R : List Tok} (hf : Fit e d) (hT : T.map key = keysE e) (h1 : NoBr R) (h2 : NoPar R) : ∃ e', stripE e' = stripE e ∧ Ev (fun g => unaryF g d (T ++ R)) (.ok (e', R)) := by
  cases hu : isUn e
  · obtain ⟨e', hs, hy⟩ := h.chain hu h6 d T R hf hT h2
    exact ⟨e', hs, hy _ (noitem h1)⟩
  · exact h.un hu d T R hf hT h1 h2
/-- At any level that it holds together. -/
theorem Back.at_ {e : Ex} (h : Back e) {lv d : Nat} {T R : List Tok} (hlv : lv ≤ levelB e) (hf : Fit e d) (hT : T.map key = keysE e) (h1 : NoBr R) (h2 : NoPar R) (h3 : NoOp lv R) : ∃ e', stripE e' = stripE e ∧ Ev (fun g => exprF g lv d (T ++ R)) (.ok (e', R)) := by
  have h6 := levelB_le' e
  by_cases hl : levelB e < 6
  · obtain ⟨e', hs, hy⟩ := h.bin hl d T R hf hT h1 h2 (fun k a b => h3 k (by omega) b)
    refine ⟨e', hs, down (levelB e - lv) lv (by omega) ?_ h3⟩
    rw [show lv + (levelB e - lv) = levelB e by omega]
    exact hy _ (stay (h3 _ hlv hl))
  · obtain ⟨e', hs, hy⟩ := h.last (by omega) hf hT h1 h2
    refine ⟨e', hs, down (6 - lv) lv (by omega) ?_ h3⟩
    rw [show lv + (6 - lv) = 6 by omega]
    exact six hy
/-- The same, and what follows may be a mark of the level. -/
theorem Back.left {e : Ex} (h : Back e) {lv d : Nat} {T R : List Tok} (hl6 : lv < 6) (hlv : lv ≤ levelB e) (hf : Fit e d) (hT : T.map key = keysE e) (h1 : NoBr R) (h2 : NoPar R) (h3 : NoOp (lv + 1) R) : ∃ e', stripE e' = stripE e ∧ ∀ y, Ev (fun g => binF g lv d (headAt (T ++ R)) e' R) y → Ev (fun g => exprF g lv d (T ++ R)) y := by
  by_cases he : lv = levelB e
  · subst he
    exact h.bin hl6 d T R hf hT h1 h2 h3
  · obtain ⟨e', hs, hy⟩ := h.at_ (lv := lv + 1) (by omega) hf hT h1 h2 h3
    exact ⟨e', hs, fun y hb => climb hl6 hy hb⟩
end Go.Proofs.YtdgedlhefjmcpaaGreatDoor.TreeP
namespace Go.Proofs.YtdgedlhefjmcpaaGreatDoor.TreeP
set_option linter.unusedVariables false
set_option linter.unusedSimpArgs false
theorem Ev.ok {α : Type} {a : α} {R : List Tok} : Ev (fun _ => okP a R) (.ok (a, R)) := ⟨0, fun _ _ => rfl⟩
theorem foldN_append (acc : Nat) (l r : List UInt8) : foldN acc (l ++ r) = foldN (foldN acc l) r := List.foldl_append
theorem dig_to (i : Nat) (h : i < 10) : (UInt8.ofNat (48 + i)).toNat = 48 + i := by
  rw [UInt8.toNat_ofNat', Nat.mod_eq_of_lt (by omega)]
theorem dec_digits (u : Nat) : (Lib.decDigits u).all digitB = true ∧ Lib.decDigits u ≠ [] ∧ numP (Lib.decDigits u) = u := by
  induction u using Nat.strongRecOn with
  | _ u ih =>
    rw [Lib.decDigits]
    by_cases h : u < 10
    · rw [dif_pos h]
      have := dig_to u h
      refine ⟨?_, by simp, ?_⟩
      · simp only [List.all_cons, List.all_nil, Bool.and_true, digitB, Bool.and_eq_true, decide_eq_true_eq]
        omega
      · rw [numP_eq]
        simp only [foldN, List.foldl_cons, List.foldl_nil]
        omega
    · rw [dif_neg h]
      obtain ⟨h1, h2, h3⟩ := ih (u / 10) (by omega)
      have := dig_to (u % 10) (by omega)
      refine ⟨?_, by simp, ?_⟩
      · simp only [List.all_append, h1, List.all_cons, List.all_nil, Bool.and_true, Bool.true_and, digitB, Bool.and_eq_true, decide_eq_true_eq]
        omega
      · rw [numP_eq] at h3 ⊢
        rw [foldN_append, h3]
        simp only [foldN, List.foldl_cons, List.foldl_nil]
        omega
theorem itoa_digits {n : Int} (h : 0 ≤ n) : (Lib.itoa n).all digitB = true ∧ Lib.itoa n ≠ [] ∧ (numP (Lib.itoa n) : Int) = n := by
  have hi : Lib.itoa n = Lib.decDigits n.toNat := by unfold Lib.itoa; rw [if_neg (by omega)]
  obtain ⟨h1, h2, h3⟩ := dec_digits n.toNat
  rw [hi]
  exact ⟨h1, h2, by rw [h3]; omega⟩
/-- A text that begins with no letter is no name, and a kept word is none. -/
theorem name_not {s m : List UInt8} (h : NameOk s) (hm : (∃ c r, m = c :: r ∧ letterB c = false) ∨ keptB m = true) : (s == m) = false := by
  obtain ⟨⟨c, r, hc, hl⟩, _, hk, _⟩ := h
  rw [beq_eq_false_iff_ne]
  rintro rfl
  rcases hm with ⟨c', r', h1, h2⟩ | h1
  · rw [hc] at h1
    obtain ⟨rfl, rfl⟩ := List.cons.inj h1
    rw [hl] at h2
    cases h2
  · rw [hk] at h1
    cases h1
theorem see_name {s m : List UInt8} {t : Tok} {R : List Tok} (h : NameOk s) (ht : t.text = s) (hm : (∃ c r, m = c :: r ∧ letterB c = false) ∨ keptB m = true) : seeB m (t :: R) = false := by
  rw [see_key, ht, name_not h hm]
  rfl
theorem name_take {s : List UInt8} {t : Tok} {R : List Tok} (h : NameOk s) (ht : t.text = s) (hk : t.kind = 1) : nameP (t :: R) = some (.ok (s, R)) := by
  have h1 : headKind (t :: R) = 1 := hk
  have h2 : headText (t :: R) = s := ht
  unfold nameP
  rw [h1, h2, h.2.2.1, if_neg (by simp), if_neg (by have := h.2.2.2; omega)]
  rfl
/-- An expression's first token. -/
theorem head_key : (e : Ex) → (d : Nat) → Fit e d → ∃ k r, keysE e = k :: r ∧ k.2 ≠ [41] ∧ k.2 ≠ [] ∧ k.1 ≠ 4
  | .num _ n, d, h => by
    simp only [Fit] at h
    obtain ⟨h1, h2, h3⟩ := itoa_digits h.2.1
    refine ⟨_, _, rfl, ?_, h2, by simp⟩
    intro hc
    simp only at hc
    rw [hc] at h1
    cases h1
  | .var _ s, d, h => by
    simp only [Fit] at h
    obtain ⟨⟨c, r, hc, hl⟩, _⟩ := h.2
    subst hc
    refine ⟨_, _, rfl, ?_, by simp, by simp⟩
    rintro ⟨⟩
    cases hl
  | .bin _ op l r, d, h => by
    simp only [Fit] at h
    simp only [keysE, parK]
    split
    · exact ⟨_, _, rfl, by simp, by simp, by simp⟩
    · rename_i hc
      have h2 := h.2.1
      rw [if_neg hc] at h2
      obtain ⟨k, q, h3, h4⟩ := head_key l d h2
      rw [h3]
      exact ⟨_, _, rfl, h4⟩
  | .un _ op x, d, h => by
    simp only [Fit] at h
    rcases h.2.1 with rfl | rfl <;> exact ⟨_, _, rfl, by simp, by simp, by simp⟩
  | .call _ f args, d, h => by
    simp only [Fit] at h
    obtain ⟨⟨c, r, hc, hl⟩, _⟩ := h.2.1
    subst hc
    refine ⟨_, _, rfl, ?_, by simp, by simp⟩
    rintro ⟨⟩
    cases hl
  | .new _ x, d, h => ⟨_, _, rfl, by simp [kNew], by simp [kNew], by simp⟩
  | .len _ x, d, h => ⟨_, _, rfl, by simp [kLen], by simp [kLen], by simp⟩
  | .item _ x i, d, h => by
    simp only [Fit] at h
    simp only [keysE, parK]
    split
    · exact ⟨_, _, rfl, by simp, by simp, by simp⟩
    · rename_i hu
      have h2 := h.2.1
      rw [if_neg hu] at h2
      split
      · exact ⟨_, _, rfl, by simp, by simp, by simp⟩
      · rename_i hc
        rw [if_neg hc] at h2
        obtain ⟨k, q, h3, h4⟩ := head_key x d h2
        rw [h3]
        exact ⟨_, _, rfl, h4⟩
  | .input _, d, h => ⟨_, _, rfl, by simp [kInput], by simp [kInput], by simp⟩
theorem close_follow {t : Tok} {R : List Tok} (h : t.text = [41]) : NoBr (t :: R) ∧ NoPar (t :: R) ∧ NoOp 0 (t :: R) := end_follow (Or.inl h)
theorem see_no {s m : List UInt8} {t : Tok} {R : List Tok} (ht : t.text = s) (h : (s == m) = false) : seeB m (t :: R) = false := by
  rw [see_key, ht, h]
  rfl
theorem see_yes {s : List UInt8} {t : Tok} {R : List Tok} (ht : t.text = s) (h : t.kind ≠ 4) : seeB s (t :: R) = true := by
  rw [see_key, ht]
  simp [h]
section eqs
variable {g d : Nat} {t : Tok} {R : List Tok}
theorem firstb_num (hk : t.kind = 2) (hn : numP t.text < 9223372036854775808) : firstF (g + 1) d (t :: R) = okP (.num t.at_ (numP t.text)) R := by
  simp only [firstF]
  rw [if_pos (show headKind (t :: R) = 2 from hk), if_pos (show numP (headText (t :: R)) < _ from hn)]
  rfl
theorem firstb_bracket (hk : t.kind = 3) (hx : t.text = [40]) : firstF (g + 1) d (t :: R) = aloneF g d (t :: R) := by
  have h2 : headKind (t :: R) = 3 := hk
  simp only [firstF]
  rw [if_neg (by rw [h2]; omega), see_yes hx (by omega)]
  rfl
theorem firstb_new (hk : t.kind = 1) (hx : t.text = kNew) : firstF (g + 1) d (t :: R) = andThen (aloneF g d R) fun x r => okP (.new t.at_ x) r := by
  have h2 : headKind (t :: R) = 1 := hk
  simp only [firstF]
  rw [if_neg (by rw [h2]; omega), see_no (m := [40]) hx rfl, see_yes (s := kNew) hx (by omega)]
  rfl
theorem firstb_len (hk : t.kind = 1) (hx : t.text = kLen) : firstF (g + 1) d (t :: R) = andThen (aloneF g d R) fun x r => okP (.len t.at_ x) r := by
  have h2 : headKind (t :: R) = 1 := hk
  simp only [firstF]
  rw [if_neg (by rw [h2]; omega), see_no (m := [40]) hx rfl, see_no (m := kNew) hx rfl, see_yes (s := kLen) hx (by omega)]
  rfl
theorem firstb_input (hk : t.kind = 1) (hx : t.text = kInput) : firstF (g + 1) d (t :: R) = andThen (must [40] R) fun _ r => andThen (must [41] r) fun _ r2 => okP (.input t.at_) r2 := by
  have h2 : headKind (t :: R) = 1 := hk
  simp only [firstF]
  rw [if_neg (by rw [h2]; omega), see_no (m := [40]) hx rfl, see_no (m := kNew) hx rfl, see_no (m := kLen) hx rfl, see_yes (s := kInput) hx (by omega)]
  rfl
theorem firstb_name {s : List UInt8} (h : NameOk s) (hk : t.kind = 1) (hx : t.text = s) : firstF (g + 1) d (t :: R) = if seeB [40] R then andThen (argsF g d R) fun l r2 => okP (.call t.at_ s l) r2 else okP (.var t.at_ s) R := by
  have h2 : headKind (t :: R) = 1 := hk
  simp only [firstF]
  rw [if_neg (by rw [h2]; omega), see_name (m := [40]) h hx (Or.inl ⟨_, _, rfl, rfl⟩), see_name (m := kNew) h hx (Or.inr rfl), see_name (m := kLen) h hx (Or.inr rfl), see_name (m := kInput) h hx (Or.inr rfl), name_take h hx hk]
  rfl
theorem alone_eq (hk : t.kind = 3) (hx : t.text = [40]) : aloneF (g + 1) d (t :: R) = andThen (exprF g 0 (d + 1) R) fun x r2 => andThen (must [41] r2) fun _ r3 => okP x r3 := by
  simp only [aloneF]
  rw [must_see hx (by omega)]
  rfl
theorem args_eq (hk : t.kind = 3) (hx : t.text = [40]) : argsF (g + 1) d (t :: R) = restF g d true [] R := by
  simp only [argsF]
  rw [must_see hx (by omega)]
  rfl
theorem rest_end {b : Bool} {l : List Ex} (hk : t.kind = 3) (hx : t.text = [41]) : restF (g + 1) d b l (t :: R) = okP l R := by
  simp only [restF]
  rw [see_yes hx (by omega)]
  rfl
theorem rest_comma {l : List Ex} (hk : t.kind = 3) (hx : t.text = [44]) : restF (g + 1) d false l (t :: R) = andThen (exprF g 0 (d + 1) R) fun x r2 => restF g d false (l ++ [x]) r2 := by
  simp only [restF]
  rw [see_no (m := [41]) hx rfl, if_neg (by simp), if_neg (by simp), must_see hx (by omega)]
  rfl
theorem rest_first {l : List Ex} {ts : List Tok} (h : seeB [41] ts = false) : restF (g + 1) d true l ts = andThen (exprF g 0 (d + 1) ts) fun x r2 => restF g d false (l ++ [x]) r2 := by
  simp only [restF]
  rw [h]
  rfl
theorem un_eq {op : List UInt8} (ho : op = [45] ∨ op = [33]) (hd : d ≤ 12) (hk : t.kind = 3) (hx : t.text = op) : unaryF (g + 1) d (t :: R) = andThen (unaryF g (d + 1) R) fun x r => okP (.un t.at_ op x) r := by
  simp only [unaryF]
  rw [if_neg (by omega)]
  rcases ho with rfl | rfl
  · rw [see_yes hx (by omega)]
    rfl
  · rw [see_no (m := [45]) hx rfl, see_yes hx (by omega)]
    rfl
theorem item_eq {a : Int} {x : Ex} (hk : t.kind = 3) (hx : t.text = [91]) : itemF (g + 1) d a x (t :: R) = andThen (exprF g 0 (d + 1) R) fun i r => andThen (must [93] r) fun _ r2 => itemF g d a (.item a x i) r2 := by
  simp only [itemF]
  rw [see_yes hx (by omega)]
  rfl
theorem bin_eq {a : Int} {x : Ex} {n : Nat} {op : List UInt8} (hn : n < 6) (hm : op ∈ levelList.getD n []) (hk : t.kind = 3) (hx : t.text = op) : binF (g + 1) n d a x (t :: R) = andThen (exprF g (n + 1) d R) fun y r => binF g n d a (.bin a op x y) r := by
  subst hx
  have ho := op_some (R := R) hn hm (by omega)
  have hne := op_nonempty hn hm
  simp only [binF]
  rw [ho, if_neg hne]
  rfl
end eqs
/-- In brackets. -/
theorem Back.alone {e : Ex} (h : Back e) {d : Nat} {T R : List Tok} (hf : Fit e (d + 1)) (hT : T.map key = par (keysE e)) : ∃ e', stripE e' = stripE e ∧ Ev (fun g => aloneF g d (T ++ R)) (.ok (e', R)) := by
  unfold par at hT
  rw [List.cons_append] at hT
  obtain ⟨t1, T1, rfl, k1, x1, hT⟩ := split_cons hT
  obtain ⟨T2, T3, rfl, hT2, hT3⟩ := split_app hT
  obtain ⟨t3, rfl, k3, x3⟩ := split_one hT3
  simp only at k1 x1 k3 x3
  obtain ⟨c1, c2, c3⟩ := close_follow (R := R) x3
  obtain ⟨e', hs, he⟩ := h.at_ (lv := 0) (R := t3 :: R) (Nat.zero_le _) hf hT2 c1 c2 c3
  rw [List.cons_append, List.append_assoc, List.singleton_append]
  refine ⟨e', hs, Ev.step (fun g => alone_eq k1 x1) (Ev.bind (k := fun g x r2 => andThen (must [41] r2) fun _ r3 => okP x r3) he (Ev.const ?_))⟩
  rw [must_see (R := R) x3 (by omega)]
  rfl
/-- Behind what stands first, items. -/
theorem first_chain {d : Nat} {ts R : List Tok} {e : Ex} (hd : d ≤ 12) (h1 : seeB [45] ts = false) (h2 : seeB [33] ts = false) (h : Ev (fun g => firstF g d ts) (.ok (e, R))) {y : Except (Int × Int) (Ex × List Tok)} (hy : Ev (fun g => itemF g d (headAt ts) e R) y) : Ev (fun g => unaryF g d ts) y :=
  Ev.step (fun g => by simp only [unaryF]; rw [if_neg (by omega), if_neg (by rw [h1]; simp), if_neg (by rw [h2]; simp)]) (Ev.bind (k := fun g x r => itemF g d (headAt ts) x r) h hy)
theorem Back.parChain {e : Ex} (h : Back e) {d : Nat} {T R : List Tok} (hd : d ≤ 12) (hf : Fit e (d + 1)) (hT : T.map key = par (keysE e)) : ∃ e', stripE e' = stripE e ∧ ∀ y, Ev (fun g => itemF g d (headAt (T ++ R)) e' R) y → Ev (fun g => unaryF g d (T ++ R)) y := by
  obtain ⟨e', hs, he⟩ := h.alone (R := R) hf hT
  refine ⟨e', hs, fun y hy => ?_⟩
  unfold par at hT
  rw [List.cons_append] at hT
  obtain ⟨t1, T1, rfl, k1, x1, hT⟩ := split_cons hT
  simp only at k1 x1
  rw [List.cons_append] at he hy ⊢
  exact first_chain hd (see_no x1 rfl) (see_no x1 rfl) (Ev.step (fun g => firstb_bracket k1 x1) he) hy
/-- Where the last level may stand. -/
theorem Back.opU {e : Ex} (h : Back e) {d : Nat} {T R : List Tok} (hf : if levelB e < 6 then d ≤ 12 ∧ Fit e (d + 1) else Fit e d) (hT : T.map key = parK 6 e (keysE e)) (h1 : NoBr R) (h2 : NoPar R) : ∃ e', stripE e' = stripE e ∧ Ev (fun g => unaryF g d (T ++ R)) (.ok (e', R)) := by
  unfold parK at hT
  split at hf
  · rename_i hc
    rw [if_pos hc] at hT
    obtain ⟨e', hs, he⟩ := h.parChain (R := R) hf.1 hf.2 hT
    exact ⟨e', hs, he _ (noitem h1)⟩
  · rename_i hc
    rw [if_neg hc] at hT
    have := levelB_le' e
    exact h.last (by omega) hf hT h1 h2
/-- Where a level may stand. -/
theorem Back.opAt {e : Ex} (h : Back e) {lv d : Nat} {T R : List Tok} (hl : lv ≤ 6) (hf : if levelB e < lv then d ≤ 12 ∧ Fit e (d + 1) else Fit e d) (hT : T.map key = parK lv e (keysE e)) (h1 : NoBr R) (h2 : NoPar R) (h3 : NoOp lv R) : ∃ e', stripE e' = stripE e ∧ Ev (fun g => exprF g lv d (T ++ R)) (.ok (e', R)) := by
  unfold parK at hT
  split at hf
  · rename_i hc
    rw [if_pos hc] at hT
    obtain ⟨e', hs, he⟩ := h.parChain (R := R) hf.1 hf.2 hT
    refine ⟨e', hs, down (6 - lv) lv (by omega) ?_ h3⟩
    rw [show lv + (6 - lv) = 6 by omega]
    exact six (he _ (noitem h1))
  · rename_i hc
    rw [if_neg hc] at hT
    exact h.at_ (by omega) hf hT h1 h2 h3
/-- At the left of a mark. -/
theorem Back.opL {e : Ex} (h : Back e) {lv d : Nat} {T R : List Tok} (hl : lv < 6) (hf : if levelB e < lv then d ≤ 12 ∧ Fit e (d + 1) else Fit e d) (hT : T.map key = parK lv e (keysE e)) (h1 : NoBr R) (h2 : NoPar R) (h3 : NoOp (lv + 1) R) : ∃ e', stripE e' = stripE e ∧ ∀ y, Ev (fun g => binF g lv d (headAt (T ++ R)) e' R) y → Ev (fun g => exprF g lv d (T ++ R)) y := by
  unfold parK at hT
  split at hf
  · rename_i hc
    rw [if_pos hc] at hT
    obtain ⟨e', hs, he⟩ := h.parChain (R := R) hf.1 hf.2 hT
    refine ⟨e', hs, fun y hy => climb hl (down (6 - (lv + 1)) (lv + 1) (by omega) ?_ h3) hy⟩
    rw [show lv + 1 + (6 - (lv + 1)) = 6 by omega]
    exact six (he _ (noitem h1))
  · rename_i hc
    rw [if_neg hc] at hT
    exact h.left hl (by omega) hf hT h1 h2 h3
def keysB (l : List Ex) : List (Int × List UInt8) := match l with | [] => [] | _ :: _ => (3, [44]) :: keysA l
theorem keysA_cons (e : Ex) (r : List Ex) : keysA (e :: r) = keysE e ++ keysB r := by
  simp only [keysA]
  cases r <;> rfl
def Backs (l : List Ex) : Prop := ∀ (d : Nat) (T : List Tok) (t : Tok) (R : List Tok) (acc : List Ex), Fits l (d + 1) → d ≤ 12 → T.map key = keysB l → t.text = [41] → t.kind = 3 → ∃ l', stripEs l' = stripEs l ∧ Ev (fun g => restF g d false acc (T ++ t :: R)) (.ok (acc ++ l', R))
theorem follow_B {l : List Ex} {T : List Tok} {t : Tok} {R : List Tok} (hT : T.map key = keysB l) (ht : t.text = [41]) : NoBr (T ++ t :: R) ∧ NoPar (T ++ t :: R) ∧ NoOp 0 (T ++ t :: R) := by
  cases l with
  | nil =>
    rw [show T = [] from List.map_eq_nil_iff.1 hT]
    exact close_follow ht
  | cons e r =>
    obtain ⟨t1, T1, rfl, k1, x1, hT⟩ := split_cons (show T.map key = (3, [44]) :: keysA (e :: r) from hT)
    exact end_follow (Or.inr (Or.inr (Or.inl x1)))
/-- One argument, and those behind it. -/
theorem rest_one {e : Ex} {r : List Ex} (he : Back e) (hr : Backs r) {d : Nat} {T : List Tok} {t : Tok} {R : List Tok} {acc : List Ex} (hf : Fits (e :: r) (d + 1)) (hd : d ≤ 12) (hT : T.map key = keysA (e :: r)) (ht : t.text = [41]) (hk : t.kind = 3) : ∃ l', stripEs l' = stripEs (e :: r) ∧ Ev (fun g => andThen (exprF g 0 (d + 1) (T ++ t :: R)) fun x r2 => restF g d false (acc ++ [x]) r2) (.ok (acc ++ l', R)) := by
  rw [keysA_cons] at hT
  simp only [Fits] at hf
  obtain ⟨T1, T2, rfl, hT1, hT2⟩ := split_app hT
  obtain ⟨c1, c2, c3⟩ := follow_B (R := R) hT2 ht
  obtain ⟨e', hs, h1⟩ := he.at_ (lv := 0) (R := T2 ++ t :: R) (Nat.zero_le _) hf.1 hT1 c1 c2 c3
  obtain ⟨l', hs2, h2⟩ := hr d T2 t R (acc ++ [e']) hf.2 hd hT2 ht hk
  refine ⟨e' :: l', by simp only [stripEs, hs, hs2], ?_⟩
  rw [List.append_assoc]
  refine Ev.bind (k := fun g x r2 => restF g d false (acc ++ [x]) r2) h1 ?_
  rw [show acc ++ e' :: l' = acc ++ [e'] ++ l' by simp]
  exact h2
theorem args_read {l : List Ex} (hb : match l with | [] => True | e :: r => Back e ∧ Backs r) {d : Nat} {T R : List Tok} (hf : Fits l (d + 1)) (hd : d ≤ 12) (hT : T.map key = (3, [40]) :: (keysA l ++ [(3, [41])])) : ∃ l', stripEs l' = stripEs l ∧ Ev (fun g => argsF g d (T ++ R)) (.ok (l', R)) := by
  obtain ⟨t1, T1, rfl, k1, x1, hT⟩ := split_cons hT
  obtain ⟨T2, T3, rfl, hT2, hT3⟩ := split_app hT
  obtain ⟨t3, rfl, k3, x3⟩ := split_one hT3
  simp only at k1 x1 k3 x3
  rw [List.cons_append, List.append_assoc, List.singleton_append]
  cases l with
  | nil =>
    rw [show T2 = [] from List.map_eq_nil_iff.1 hT2]
    exact ⟨[], rfl, Ev.step (fun g => args_eq k1 x1) (Ev.pure fun g => rest_end k3 x3)⟩
  | cons e r =>
    obtain ⟨l', hs, h⟩ := rest_one (acc := []) (R := R) hb.1 hb.2 hf hd hT2 x3 k3
    refine ⟨l', hs, Ev.step (fun g => args_eq k1 x1) (Ev.step (fun g => rest_first ?_) h)⟩
    simp only [Fits] at hf
    obtain ⟨k, q, hkq, hne, _, _⟩ := head_key e _ hf.1
    rw [keysA_cons, hkq, List.cons_append] at hT2
    obtain ⟨t4, T4, rfl, k4, x4, _⟩ := split_cons hT2
    exact see_no x4 (by rw [beq_eq_false_iff_ne]; exact hne)
mutual
theorem back : (e : Ex) → Back e
  | .num a n => by
    refine ⟨fun h => by simp [isUn] at h, ?_, fun h => by simp [levelB] at h⟩
    intro _ _ d T R hf hT h2
    simp only [keysE] at hT
    simp only [Fit] at hf
    obtain ⟨t, rfl, k1, x1⟩ := split_one hT
    simp only at k1 x1
    obtain ⟨i1, i2, i3⟩ := itoa_digits hf.2.1
    rw [List.singleton_append]
    refine ⟨.num t.at_ (numP t.text), by simp only [stripE, x1, i3], fun y hy => first_chain hf.1 ?_ ?_ (Ev.pure fun g => firstb_num k1 (by rw [x1]; omega)) hy⟩
    · refine see_no x1 (beq_eq_false_iff_ne.2 ?_)
      intro hc
      rw [hc] at i1
      cases i1
    · refine see_no x1 (beq_eq_false_iff_ne.2 ?_)
      intro hc
      rw [hc] at i1
      cases i1
  | .var a s => by
    refine ⟨fun h => by simp [isUn] at h, ?_, fun h => by simp [levelB] at h⟩
    intro _ _ d T R hf hT h2
    simp only [keysE] at hT
    simp only [Fit] at hf
    obtain ⟨t, rfl, k1, x1⟩ := split_one hT
    simp only at k1 x1
    rw [List.singleton_append]
    exact ⟨.var t.at_ s, by simp only [stripE], fun y hy => first_chain hf.1 (see_name hf.2 x1 (Or.inl ⟨_, _, rfl, rfl⟩)) (see_name hf.2 x1 (Or.inl ⟨_, _, rfl, rfl⟩)) (Ev.pure fun g => by rw [firstb_name hf.2 k1 x1, show seeB [40] R = false from h2]; rfl) hy⟩
  | .bin a op l r => by
    refine ⟨fun h => by simp [isUn] at h, ?_, ?_⟩
    · intro _ h d T R hf
      simp only [Fit] at hf
      obtain ⟨k, hk, hm⟩ := hf.1
      simp only [levelB] at h
      rw [level_of hk hm] at h
      omega
    · intro hlt d T R hf hT h1 h2 h3
      simp only [Fit] at hf
      obtain ⟨⟨k, hk, hm⟩, fl, fr⟩ := hf
      simp only [keysE] at hT
      simp only [levelB] at h3 ⊢
      rw [level_of hk hm] at fl fr hT h3 ⊢
      obtain ⟨TL, T2, rfl, hTL, hT⟩ := split_app hT
      obtain ⟨t, TR, rfl, kt, xt, hTR⟩ := split_cons hT
      simp only at kt xt
      obtain ⟨c1, c2, c3⟩ := op_follow (t := t) (R := TR ++ R) hk (by rw [xt]; exact hm)
      obtain ⟨l', hsl, hl⟩ := (back l).opL (R := t :: (TR ++ R)) hk fl hTL c1 c2 c3
      obtain ⟨r', hsr, hr⟩ := (back r).opAt (R := R) (by omega) fr hTR h1 h2 h3
      rw [List.append_assoc, List.cons_append]
      exact ⟨.bin (headAt (TL ++ t :: (TR ++ R))) op l' r', by simp only [stripE, hsl, hsr], fun y hy => hl y (Ev.step (fun g => bin_eq hk hm kt xt) (Ev.bind (k := fun g y r => binF g k d (headAt (TL ++ t :: (TR ++ R))) (.bin (headAt (TL ++ t :: (TR ++ R))) op l' y) r) hr hy))⟩
  | .un a op x => by
    refine ⟨?_, fun h => by simp [isUn] at h, fun h => by simp [levelB] at h⟩
    intro _ d T R hf hT h1 h2
    simp only [Fit] at hf
    simp only [keysE] at hT
    obtain ⟨t, T1, rfl, kt, xt, hT1⟩ := split_cons hT
    simp only at kt xt
    obtain ⟨x', hs, hx⟩ := (back x).opU (R := R) hf.2.2 hT1 h1 h2
    rw [List.cons_append]
    exact ⟨.un t.at_ op x', by simp only [stripE, hs], Ev.step (fun g => un_eq hf.2.1 hf.1 kt xt) (Ev.bind (k := fun g x r => okP (Ex.un t.at_ op x) r) hx Ev.ok)⟩
  | .call a f args => by
    refine ⟨fun h => by simp [isUn] at h, ?_, fun h => by simp [levelB] at h⟩
    intro _ _ d T R hf hT h2
    simp only [keysE] at hT
    simp only [Fit] at hf
    obtain ⟨t, T1, rfl, k1, x1, hT1⟩ := split_cons hT
    simp only at k1 x1
    obtain ⟨l', hs, hl⟩ := args_read (R := R) (backs_ args) hf.2.2 hf.1 hT1
    obtain ⟨t2, T2, rfl, k2, x2, _⟩ := split_cons hT1
    simp only at k2 x2
    rw [List.cons_append] at hl ⊢
    rw [List.cons_append]
    exact ⟨.call t.at_ f l', by simp only [stripE, hs], fun y hy => first_chain hf.1 (see_name hf.2.1 x1 (Or.inl ⟨_, _, rfl, rfl⟩)) (see_name hf.2.1 x1 (Or.inl ⟨_, _, rfl, rfl⟩)) (Ev.step (fun g => by rw [firstb_name hf.2.1 k1 x1, see_yes x2 (by omega), if_pos rfl]) (Ev.bind (k := fun g l r2 => okP (Ex.call t.at_ f l) r2) hl Ev.ok)) hy⟩
  | .new a x => by
    refine ⟨fun h => by simp [isUn] at h, ?_, fun h => by simp [levelB] at h⟩
    intro _ _ d T R hf hT h2
    simp only [keysE] at hT
    simp only [Fit] at hf
    obtain ⟨t, T1, rfl, k1, x1, hT1⟩ := split_cons hT
    simp only at k1 x1
    obtain ⟨x', hs, hx⟩ := (back x).alone (R := R) hf.2 hT1
    rw [List.cons_append]
    exact ⟨.new t.at_ x', by simp only [stripE, hs], fun y hy => first_chain hf.1 (see_no x1 rfl) (see_no x1 rfl) (Ev.step (fun g => firstb_new k1 x1) (Ev.bind (k := fun g x r2 => okP (Ex.new t.at_ x) r2) hx Ev.ok)) hy⟩
  | .len a x => by
    refine ⟨fun h => by simp [isUn] at h, ?_, fun h => by simp [levelB] at h⟩
    intro _ _ d T R hf hT h2
    simp only [keysE] at hT
    simp only [Fit] at hf
    obtain ⟨t, T1, rfl, k1, x1, hT1⟩ := split_cons hT
    simp only at k1 x1
    obtain ⟨x', hs, hx⟩ := (back x).alone (R := R) hf.2 hT1
    rw [List.cons_append]
    exact ⟨.len t.at_ x', by simp only [stripE, hs], fun y hy => first_chain hf.1 (see_no x1 rfl) (see_no x1 rfl) (Ev.step (fun g => firstb_len k1 x1) (Ev.bind (k := fun g x r2 => okP (Ex.len t.at_ x) r2) hx Ev.ok)) hy⟩
  | .item a x i => by
    refine ⟨fun h => by simp [isUn] at h, ?_, fun h => by simp [levelB] at h⟩
    intro _ _ d T R hf hT h2
    simp only [keysE] at hT
    simp only [Fit] at hf
    obtain ⟨TX, T2, rfl, hTX, hT⟩ := split_app hT
    obtain ⟨t, T3, rfl, kt, xt, hT⟩ := split_cons hT
    obtain ⟨TI, T4, rfl, hTI, hT⟩ := split_app hT
    obtain ⟨t4, rfl, k4, x4⟩ := split_one hT
    simp only at kt xt k4 x4
    have hx : ∃ x', stripE x' = stripE x ∧ ∀ y, Ev (fun g => itemF g d (headAt (TX ++ t :: (TI ++ t4 :: R))) x' (t :: (TI ++ t4 :: R))) y → Ev (fun g => unaryF g d (TX ++ t :: (TI ++ t4 :: R))) y := by
      have fx := hf.2.1
      split at fx
      · rename_i hu
        rw [if_pos hu] at hTX
        exact (back x).parChain hf.1 fx hTX
      · rename_i hu
        rw [if_neg hu] at hTX
        unfold parK at hTX
        split at fx
        · rename_i hc
          rw [if_pos hc] at hTX
          exact (back x).parChain hf.1 fx.2 hTX
        · rename_i hc
          rw [if_neg hc] at hTX
          have := levelB_le' x
          exact (back x).chain (by simpa using hu) (by omega) d TX _ fx hTX (see_no xt rfl)
    obtain ⟨x', hsx, hx⟩ := hx
    obtain ⟨c1, c2, c3⟩ := end_follow (t := t4) (R := R) (Or.inr (Or.inl x4))
    obtain ⟨i', hsi, hi⟩ := (back i).at_ (lv := 0) (R := t4 :: R) (Nat.zero_le _) hf.2.2 hTI c1 c2 c3
    rw [List.append_assoc, List.cons_append, List.append_assoc, List.singleton_append]
    exact ⟨.item (headAt (TX ++ t :: (TI ++ t4 :: R))) x' i', by simp only [stripE, hsx, hsi], fun y hy => hx y (Ev.step (fun g => item_eq kt xt) (Ev.bind (k := fun g i r => andThen (must [93] r) fun _ r2 => itemF g d (headAt (TX ++ t :: (TI ++ t4 :: R))) (.item (headAt (TX ++ t :: (TI ++ t4 :: R))) x' i) r2) hi (Ev.bind (k := fun g _ r2 => itemF g d (headAt (TX ++ t :: (TI ++ t4 :: R))) (.item (headAt (TX ++ t :: (TI ++ t4 :: R))) x' i') r2) (Ev.const (must_see (R := R) x4 (by omega))) hy)))⟩
  | .input a => by
    refine ⟨fun h => by simp [isUn] at h, ?_, fun h => by simp [levelB] at h⟩
    intro _ _ d T R hf hT h2
    simp only [keysE, par] at hT
    simp only [Fit] at hf
    rw [List.singleton_append] at hT
    obtain ⟨t, T1, rfl, k1, x1, hT⟩ := split_cons hT
    obtain ⟨t2, T2, rfl, k2, x2, hT⟩ := split_cons hT
    obtain ⟨t3, rfl, k3, x3⟩ := split_one hT
    simp only at k1 x1 k2 x2 k3 x3
    rw [List.cons_append, List.cons_append, List.singleton_append]
    refine ⟨.input t.at_, by simp only [stripE], fun y hy => first_chain hf (see_no x1 rfl) (see_no x1 rfl) (Ev.pure fun g => ?_) hy⟩
    rw [firstb_input k1 x1, must_see x2 (by omega)]
    simp only [andThen]
    rw [must_see x3 (by omega)]
    rfl
theorem backs_ : (l : List Ex) → (match l with | [] => True | e :: r => Back e ∧ Backs r)
  | [] => trivial
  | e :: r => ⟨back e, by
    have ih := backs_ r
    intro d T t R acc hf hd hT ht hk
    cases r with
    | nil =>
      rw [show T = [] from List.map_eq_nil_iff.1 hT]
      refine ⟨[], rfl, Ev.pure fun g => ?_⟩
      rw [List.nil_append, rest_end hk ht, List.append_nil]
      rfl
    | cons e2 r2 =>
      obtain ⟨t1, T1, rfl, k1, x1, hT⟩ := split_cons (show T.map key = (3, [44]) :: keysA (e2 :: r2) from hT)
      simp only at k1 x1
      obtain ⟨l', hs, h⟩ := rest_one (acc := acc) (R := R) ih.1 ih.2 hf hd hT ht hk
      exact ⟨l', hs, Ev.step (fun g => rest_comma k1 x1) h⟩⟩
end
end Go.Proofs.YtdgedlhefjmcpaaGreatDoor.TreeP
namespace Go.Proofs.YtdgedlhefjmcpaaGreatDoor.TreeP
set_option linter.unusedVariables false
set_option linter.unusedSimpArgs false
mutual
def keysS : St → List (Int × List UInt8)
  | .var _ s v => (1, kVar) :: (1, s) :: (3, [61]) :: (keysE v ++ [(3, [59])])
  | .set _ s v => (1, s) :: (3, [61]) :: (keysE v ++ [(3, [59])])
  | .put _ s i v => (1, s) :: (3, [91]) :: (keysE i ++ (3, [93]) :: (3, [61]) :: (keysE v ++ [(3, [59])]))
  | .cond _ v t e => (1, kIf) :: (par (keysE v) ++ ((3, [123]) :: (keysSs t ++ [(3, [125])]) ++ (if e.isEmpty then [] else (1, kElse) :: (3, [123]) :: (keysSs e ++ [(3, [125])]))))
  | .loop _ v t => (1, kWhile) :: (par (keysE v) ++ (3, [123]) :: (keysSs t ++ [(3, [125])]))
  | .ret _ v => (1, kReturn) :: (keysE v ++ [(3, [59])])
  | .print _ v => (1, kPrint) :: (keysE v ++ [(3, [59])])
  | .call _ v => keysE v ++ [(3, [59])]
def keysSs : List St → List (Int × List UInt8)
  | [] => []
  | s :: r => keysS s ++ keysSs r
end
mutual
def stripS : St → St
  | .var _ s v => .var 0 s (stripE v)
  | .set _ s v => .set 0 s (stripE v)
  | .put _ s i v => .put 0 s (stripE i) (stripE v)
  | .cond _ v t e => .cond 0 (stripE v) (stripSs t) (stripSs e)
  | .loop _ v t => .loop 0 (stripE v) (stripSs t)
  | .ret _ v => .ret 0 (stripE v)
  | .print _ v => .print 0 (stripE v)
  | .call _ v => .call 0 (stripE v)
def stripSs : List St → List St
  | [] => []
  | s :: r => stripS s :: stripSs r
end
def NoElse (R : List Tok) : Prop := seeB kElse R = false
/-- An expression, and a mark that ends it. -/
theorem expr_end {e : Ex} {d : Nat} {T R : List Tok} {t : Tok} (hf : Fit e d) (hT : T.map key = keysE e) (ht : endB t.text) : ∃ e', stripE e' = stripE e ∧ Ev (fun g => exprF g 0 d (T ++ t :: R)) (.ok (e', t :: R)) := by
  obtain ⟨c1, c2, c3⟩ := end_follow (R := R) ht
  exact (back e).at_ (Nat.zero_le _) hf hT c1 c2 c3
theorem semi_end {α : Type} {e : Ex} {d : Nat} {T R : List Tok} (hf : Fit e d) (hT : T.map key = keysE e ++ [(3, [59])]) (mk : Ex → α) : ∃ e', stripE e' = stripE e ∧ Ev (fun g => andThen (exprF g 0 d (T ++ R)) fun v r => andThen (must [59] r) fun _ r2 => okP (mk v) r2) (.ok (mk e', R)) := by
  obtain ⟨T1, T2, rfl, h1, h2⟩ := split_app hT
  obtain ⟨t, rfl, k, x⟩ := split_one h2
  simp only at k x
  obtain ⟨e', hs, he⟩ := expr_end (R := R) hf h1 (t := t) (by rw [x]; exact Or.inr (Or.inr (Or.inr rfl)))
  refine ⟨e', hs, ?_⟩
  rw [List.append_assoc, List.singleton_append]
  refine Ev.bind (k := fun g v r => andThen (must [59] r) fun _ r2 => okP (mk v) r2) he ?_
  rw [must_see x (by omega)]
  exact Ev.ok
section eqs
variable {g d : Nat} {t : Tok} {R : List Tok}
theorem st_if (hk : t.kind = 1) (hx : t.text = kIf) : stmtF (g + 1) d (t :: R) = andThen (aloneF g 0 R) fun v r => andThen (blockF g (d + 1) r) fun b r2 => if seeB kElse r2 then andThen (blockF g (d + 1) r2.tail) fun e r3 => okP (.cond t.at_ v b e) r3 else okP (.cond t.at_ v b []) r2 := by
  simp only [stmtF]
  rw [see_yes hx (by omega)]
  rfl
theorem st_while (hk : t.kind = 1) (hx : t.text = kWhile) : stmtF (g + 1) d (t :: R) = andThen (aloneF g 0 R) fun v r => andThen (blockF g (d + 1) r) fun b r2 => okP (.loop t.at_ v b) r2 := by
  simp only [stmtF]
  rw [see_no (m := kIf) hx rfl, see_yes hx (by omega)]
  rfl
theorem st_var (hk : t.kind = 1) (hx : t.text = kVar) : stmtF (g + 1) d (t :: R) = andThen (nameP R) fun n r => andThen (must [61] r) fun _ r2 => andThen (exprF g 0 0 r2) fun v r3 => andThen (must [59] r3) fun _ r4 => okP (.var t.at_ n v) r4 := by
  simp only [stmtF]
  rw [see_no (m := kIf) hx rfl, see_no (m := kWhile) hx rfl, see_yes hx (by omega)]
  rfl
theorem st_ret (hk : t.kind = 1) (hx : t.text = kReturn) : stmtF (g + 1) d (t :: R) = andThen (exprF g 0 0 R) fun v r => andThen (must [59] r) fun _ r2 => okP (.ret t.at_ v) r2 := by
  simp only [stmtF]
  rw [see_no (m := kIf) hx rfl, see_no (m := kWhile) hx rfl, see_no (m := kVar) hx rfl, see_yes hx (by omega)]
  rfl
theorem st_print (hk : t.kind = 1) (hx : t.text = kPrint) : stmtF (g + 1) d (t :: R) = andThen (exprF g 0 0 R) fun v r => andThen (must [59] r) fun _ r2 => okP (.print t.at_ v) r2 := by
  simp only [stmtF]
  rw [see_no (m := kIf) hx rfl, see_no (m := kWhile) hx rfl, see_no (m := kVar) hx rfl, see_no (m := kReturn) hx rfl, see_yes hx (by omega)]
  rfl
theorem st_named {s : List UInt8} (h : NameOk s) (hx : t.text = s) : stmtF (g + 1) d (t :: R) = andThen (namedF g (t :: R)) fun s r => andThen (must [59] r) fun _ r2 => okP s r2 := by
  simp only [stmtF]
  rw [see_name (m := kIf) h hx (Or.inr rfl), see_name (m := kWhile) h hx (Or.inr rfl), see_name (m := kVar) h hx (Or.inr rfl), see_name (m := kReturn) h hx (Or.inr rfl), see_name (m := kPrint) h hx (Or.inr rfl)]
  rfl
theorem named_eq {s : List UInt8} (h : NameOk s) (hk : t.kind = 1) (hx : t.text = s) : namedF (g + 1) (t :: R) = if seeB [40] R then andThen (argsF g 0 R) fun l r2 => okP (.call t.at_ (.call t.at_ s l)) r2
      else if seeB [91] R then
        andThen (exprF g 0 1 R.tail) fun i r2 => andThen (must [93] r2) fun _ r3 => andThen (must [61] r3) fun _ r4 => andThen (exprF g 0 0 r4) fun v r5 => okP (.put t.at_ s i v) r5
      else andThen (must [61] R) fun _ r2 => andThen (exprF g 0 0 r2) fun v r3 => okP (.set t.at_ s v) r3 := by
  simp only [namedF]
  rw [name_take h hx hk]
  rfl
theorem block_eq (hd : d ≤ 12) (hk : t.kind = 3) (hx : t.text = [123]) : blockF (g + 1) d (t :: R) = stmtsF g d [] R := by
  simp only [blockF]
  rw [if_neg (by omega), must_see hx (by omega)]
  rfl
theorem stmts_end {l : List St} (hk : t.kind = 3) (hx : t.text = [125]) : stmtsF (g + 1) d l (t :: R) = okP l R := by
  simp only [stmtsF]
  rw [see_yes hx (by omega)]
  rfl
theorem stmts_more {l : List St} {ts : List Tok} (h : seeB [125] ts = false) : stmtsF (g + 1) d l ts = andThen (stmtF g d ts) fun s r => stmtsF g d (l ++ [s]) r := by
  simp only [stmtsF]
  rw [h]
  rfl
end eqs
/-- A statement's first token. -/
theorem head_st {s : St} {d : Nat} (h : FitS s d) : ∃ k r, keysS s = k :: r ∧ k.2 ≠ [125] ∧ k.2 ≠ kElse ∧ k.2 ≠ [] := by
  have name : ∀ {n : List UInt8}, NameOk n → n ≠ [125] ∧ n ≠ kElse ∧ n ≠ [] := by
    intro n hn
    refine ⟨?_, ?_, ?_⟩
    · have := name_not (m := [125]) hn (Or.inl ⟨_, _, rfl, rfl⟩)
      rwa [beq_eq_false_iff_ne] at this
    · have := name_not (m := kElse) hn (Or.inr rfl)
      rwa [beq_eq_false_iff_ne] at this
    · obtain ⟨⟨c, r, rfl, _⟩, _⟩ := hn
      simp
  cases s with
  | var _ s v => exact ⟨_, _, rfl, by simp [kVar], by simp [kVar, kElse], by simp [kVar]⟩
  | set _ s v => simp only [FitS] at h; exact ⟨_, _, rfl, name h.1⟩
  | put _ s i v => simp only [FitS] at h; exact ⟨_, _, rfl, name h.1⟩
  | cond _ v t e => exact ⟨_, _, rfl, by simp [kIf], by simp [kIf, kElse], by simp [kIf]⟩
  | loop _ v t => exact ⟨_, _, rfl, by simp [kWhile], by simp [kWhile, kElse], by simp [kWhile]⟩
  | ret _ v => exact ⟨_, _, rfl, by simp [kReturn], by simp [kReturn, kElse], by simp [kReturn]⟩
  | print _ v => exact ⟨_, _, rfl, by simp [kPrint], by simp [kPrint, kElse], by simp [kPrint]⟩
  | call _ v =>
    simp only [FitS] at h
    obtain ⟨⟨a, f, l, rfl⟩, h2⟩ := h
    simp only [Fit] at h2
    exact ⟨_, _, rfl, name h2.2.1⟩
def BackS (s : St) : Prop := ∀ (d : Nat) (T R : List Tok), FitS s d → T.map key = keysS s → NoElse R → ∃ s', stripS s' = stripS s ∧ Ev (fun g => stmtF g d (T ++ R)) (.ok (s', R))
def BackSs (l : List St) : Prop := ∀ (d : Nat) (T : List Tok) (t : Tok) (R : List Tok) (acc : List St), FitSs l d → T.map key = keysSs l → t.text = [125] → t.kind = 3 → ∃ l', stripSs l' = stripSs l ∧ Ev (fun g => stmtsF g d acc (T ++ t :: R)) (.ok (acc ++ l', R))
theorem block_read {l : List St} (h : BackSs l) {d : Nat} {T R : List Tok} (hd : d ≤ 12) (hf : FitSs l d) (hT : T.map key = (3, [123]) :: (keysSs l ++ [(3, [125])])) : ∃ l', stripSs l' = stripSs l ∧ Ev (fun g => blockF g d (T ++ R)) (.ok (l', R)) := by
  obtain ⟨t1, T1, rfl, k1, x1, hT⟩ := split_cons hT
  obtain ⟨T2, T3, rfl, hT2, hT3⟩ := split_app hT
  obtain ⟨t3, rfl, k3, x3⟩ := split_one hT3
  simp only at k1 x1 k3 x3
  obtain ⟨l', hs, hl⟩ := h d T2 t3 R [] hf hT2 x3 k3
  refine ⟨l', hs, ?_⟩
  rw [List.cons_append, List.append_assoc, List.singleton_append]
  exact Ev.step (fun g => block_eq hd k1 x1) hl
theorem stripSs_nil {l : List St} (h : stripSs l = stripSs []) : l = [] := by
  cases l with
  | nil => rfl
  | cons a r => simp [stripSs] at h
mutual
theorem backS : (s : St) → BackS s
  | .var a n v => by
    intro d T R hf hT hn
    simp only [FitS] at hf
    simp only [keysS] at hT
    obtain ⟨t1, T1, rfl, k1, x1, hT⟩ := split_cons hT
    obtain ⟨t2, T2, rfl, k2, x2, hT⟩ := split_cons hT
    obtain ⟨t3, T3, rfl, k3, x3, hT⟩ := split_cons hT
    simp only at k1 x1 k2 x2 k3 x3
    obtain ⟨v', hs, hv⟩ := semi_end (R := R) hf.2 hT (St.var t1.at_ n)
    refine ⟨.var t1.at_ n v', by simp only [stripS, hs], ?_⟩
    simp only [List.cons_append]
    refine Ev.step (fun g => st_var k1 x1) ?_
    rw [name_take hf.1 x2 k2]
    simp only [andThen.eq_1]
    rw [must_see x3 (by omega)]
    simp only [andThen.eq_1]
    exact hv
  | .set a n v => by
    intro d T R hf hT hn
    simp only [FitS] at hf
    simp only [keysS] at hT
    obtain ⟨t2, T2, rfl, k2, x2, hT⟩ := split_cons hT
    obtain ⟨t3, T3, rfl, k3, x3, hT⟩ := split_cons hT
    obtain ⟨T4, T5, rfl, h4, h5⟩ := split_app hT
    obtain ⟨t6, rfl, k6, x6⟩ := split_one h5
    simp only at k2 x2 k3 x3 k6 x6
    obtain ⟨v', hs, hv⟩ := expr_end (R := R) hf.2 h4 (t := t6) (by rw [x6]; exact Or.inr (Or.inr (Or.inr rfl)))
    refine ⟨.set t2.at_ n v', by simp only [stripS, hs], ?_⟩
    rw [List.cons_append, List.cons_append, List.append_assoc, List.singleton_append]
    refine Ev.step (fun g => st_named hf.1 x2) (Ev.bind (k := fun g s r => andThen (must [59] r) fun _ r2 => okP s r2) (R := t6 :: R) (Ev.step (fun g => ?_) (Ev.bind (k := fun g v r3 => okP (St.set t2.at_ n v) r3) hv Ev.ok)) ?_)
    · rw [named_eq hf.1 k2 x2, see_no (m := [40]) x3 rfl, see_no (m := [91]) x3 rfl, must_see x3 (by omega)]
      rfl
    · rw [must_see x6 (by omega)]
      exact Ev.ok
  | .put a n i v => by
    intro d T R hf hT hn
    simp only [FitS] at hf
    simp only [keysS] at hT
    obtain ⟨t2, T2, rfl, k2, x2, hT⟩ := split_cons hT
    obtain ⟨t3, T3, rfl, k3, x3, hT⟩ := split_cons hT
    obtain ⟨T4, T5, rfl, h4, hT⟩ := split_app hT
    obtain ⟨t5, T6, rfl, k5, x5, hT⟩ := split_cons hT
    obtain ⟨t6, T7, rfl, k6, x6, hT⟩ := split_cons hT
    obtain ⟨T8, T9, rfl, h8, h9⟩ := split_app hT
    obtain ⟨t9, rfl, k9, x9⟩ := split_one h9
    simp only at k2 x2 k3 x3 k5 x5 k6 x6 k9 x9
    obtain ⟨v', hs, hv⟩ := expr_end (R := R) hf.2.2 h8 (t := t9) (by rw [x9]; exact Or.inr (Or.inr (Or.inr rfl)))
    obtain ⟨i', hsi, hi⟩ := expr_end (R := t6 :: (T8 ++ t9 :: R)) hf.2.1 h4 (t := t5) (by rw [x5]; exact Or.inr (Or.inl rfl))
    refine ⟨.put t2.at_ n i' v', by simp only [stripS, hs, hsi], ?_⟩
    rw [List.cons_append, List.cons_append, List.append_assoc, List.cons_append, List.cons_append, List.append_assoc, List.singleton_append]
    refine Ev.step (fun g => st_named hf.1 x2) (Ev.bind (k := fun g s r => andThen (must [59] r) fun _ r2 => okP s r2) (a := St.put t2.at_ n i' v') (R := t9 :: R) (Ev.step (G := fun g => andThen (exprF g 0 1 (T4 ++ t5 :: t6 :: (T8 ++ t9 :: R))) fun i r2 => andThen (must [93] r2) fun _ r3 => andThen (must [61] r3) fun _ r4 => andThen (exprF g 0 0 r4) fun v r5 => okP (St.put t2.at_ n i v) r5) (fun g => ?_) (Ev.bind (k := fun g i r2 => andThen (must [93] r2) fun _ r3 => andThen (must [61] r3) fun _ r4 => andThen (exprF g 0 0 r4) fun v r5 => okP (St.put t2.at_ n i v) r5) hi ?_)) ?_)
    · rw [named_eq hf.1 k2 x2, see_no (m := [40]) x3 rfl, see_yes (s := [91]) x3 (by omega)]
      rfl
    · rw [must_see x5 (by omega)]
      simp only [andThen.eq_1]
      rw [must_see x6 (by omega)]
      simp only [andThen.eq_1]
      exact Ev.bind (k := fun g v r5 => okP (St.put t2.at_ n i' v) r5) hv Ev.ok
    · rw [must_see x9 (by omega)]
      exact Ev.ok
  | .cond a v t e => by
    intro d T R hf hT hn
    simp only [FitS] at hf
    simp only [keysS] at hT
    obtain ⟨t1, T1, rfl, k1, x1, hT⟩ := split_cons hT
    simp only at k1 x1
    obtain ⟨T2, T3, rfl, h2, hT⟩ := split_app hT
    obtain ⟨T4, T5, rfl, h4, hT⟩ := split_app hT
    obtain ⟨v', hsv, hv⟩ := (back v).alone (R := T4 ++ (T5 ++ R)) hf.1 h2
    obtain ⟨t', hst, ht⟩ := block_read (backSs t) (R := T5 ++ R) hf.2.1 hf.2.2.1 h4
    have ih := backSs e
    cases e with
    | nil =>
      rw [show T5 = [] from List.map_eq_nil_iff.1 hT] at hv ht ⊢
      refine ⟨.cond t1.at_ v' t' [], by simp only [stripS, hsv, hst], ?_⟩
      rw [List.cons_append, List.append_assoc, List.append_assoc]
      refine Ev.step (fun g => st_if k1 x1) (Ev.bind (k := fun g v r => andThen (blockF g (d + 1) r) fun b r2 => if seeB kElse r2 then andThen (blockF g (d + 1) r2.tail) fun e r3 => okP (St.cond t1.at_ v b e) r3 else okP (St.cond t1.at_ v b []) r2) hv (Ev.bind (k := fun g b r2 => if seeB kElse r2 then andThen (blockF g (d + 1) r2.tail) fun e r3 => okP (St.cond t1.at_ v' b e) r3 else okP (St.cond t1.at_ v' b []) r2) ht ?_))
      rw [List.nil_append, show seeB kElse R = false from hn]
      exact Ev.ok
    | cons e1 er =>
      rw [List.isEmpty_cons, if_neg (by simp)] at hT
      obtain ⟨t6, T6, rfl, k6, x6, hT⟩ := split_cons hT
      simp only at k6 x6
      obtain ⟨e', hse, he⟩ := block_read ih (R := R) hf.2.1 hf.2.2.2 hT
      refine ⟨.cond t1.at_ v' t' e', by simp only [stripS, hsv, hst, hse], ?_⟩
      rw [List.cons_append, List.append_assoc, List.append_assoc]
      refine Ev.step (fun g => st_if k1 x1) (Ev.bind (k := fun g v r => andThen (blockF g (d + 1) r) fun b r2 => if seeB kElse r2 then andThen (blockF g (d + 1) r2.tail) fun e r3 => okP (St.cond t1.at_ v b e) r3 else okP (St.cond t1.at_ v b []) r2) hv (Ev.bind (k := fun g b r2 => if seeB kElse r2 then andThen (blockF g (d + 1) r2.tail) fun e r3 => okP (St.cond t1.at_ v' b e) r3 else okP (St.cond t1.at_ v' b []) r2) ht ?_))
      rw [List.cons_append, see_yes (s := kElse) x6 (by omega)]
      exact Ev.bind (k := fun g e r3 => okP (St.cond t1.at_ v' t' e) r3) he Ev.ok
  | .loop a v t => by
    intro d T R hf hT hn
    simp only [FitS] at hf
    simp only [keysS] at hT
    obtain ⟨t1, T1, rfl, k1, x1, hT⟩ := split_cons hT
    simp only at k1 x1
    obtain ⟨T2, T3, rfl, h2, hT⟩ := split_app hT
    obtain ⟨v', hsv, hv⟩ := (back v).alone (R := T3 ++ R) hf.1 h2
    obtain ⟨t', hst, ht⟩ := block_read (backSs t) (R := R) hf.2.1 hf.2.2 hT
    refine ⟨.loop t1.at_ v' t', by simp only [stripS, hsv, hst], ?_⟩
    rw [List.cons_append, List.append_assoc]
    exact Ev.step (fun g => st_while k1 x1) (Ev.bind (k := fun g v r => andThen (blockF g (d + 1) r) fun b r2 => okP (St.loop t1.at_ v b) r2) hv (Ev.bind (k := fun g b r2 => okP (St.loop t1.at_ v' b) r2) ht Ev.ok))
  | .ret a v => by
    intro d T R hf hT hn
    simp only [FitS] at hf
    simp only [keysS] at hT
    obtain ⟨t1, T1, rfl, k1, x1, hT⟩ := split_cons hT
    simp only at k1 x1
    obtain ⟨v', hs, hv⟩ := semi_end (R := R) hf hT (St.ret t1.at_)
    refine ⟨.ret t1.at_ v', by simp only [stripS, hs], ?_⟩
    rw [List.cons_append]
    exact Ev.step (fun g => st_ret k1 x1) hv
  | .print a v => by
    intro d T R hf hT hn
    simp only [FitS] at hf
    simp only [keysS] at hT
    obtain ⟨t1, T1, rfl, k1, x1, hT⟩ := split_cons hT
    simp only at k1 x1
    obtain ⟨v', hs, hv⟩ := semi_end (R := R) hf hT (St.print t1.at_)
    refine ⟨.print t1.at_ v', by simp only [stripS, hs], ?_⟩
    rw [List.cons_append]
    exact Ev.step (fun g => st_print k1 x1) hv
  | .call a v => by
    intro d T R hf hT hn
    simp only [FitS] at hf
    simp only [keysS] at hT
    obtain ⟨⟨a2, f, l, rfl⟩, h2⟩ := hf
    simp only [Fit] at h2
    simp only [keysE] at hT
    obtain ⟨T1, T2, rfl, h4, h5⟩ := split_app hT
    obtain ⟨t6, rfl, k6, x6⟩ := split_one h5
    obtain ⟨t1, T3, rfl, k1, x1, h7⟩ := split_cons h4
    simp only at k1 x1 k6 x6
    obtain ⟨l', hs, hl⟩ := args_read (R := t6 :: R) (backs_ l) h2.2.2 (by omega) h7
    obtain ⟨t8, T8, rfl, k8, x8, _⟩ := split_cons h7
    simp only at k8 x8
    refine ⟨.call t1.at_ (.call t1.at_ f l'), by simp only [stripS, stripE, hs], ?_⟩
    rw [List.append_assoc, List.singleton_append, List.cons_append]
    refine Ev.step (fun g => st_named h2.2.1 x1) (Ev.bind (k := fun g s r => andThen (must [59] r) fun _ r2 => okP s r2) (R := t6 :: R) (Ev.step (fun g => ?_) (Ev.bind (k := fun g l r3 => okP (St.call t1.at_ (.call t1.at_ f l)) r3) hl Ev.ok)) ?_)
    · rw [named_eq h2.2.1 k1 x1, List.cons_append, see_yes (s := [40]) x8 (by omega)]
      rfl
    · rw [must_see x6 (by omega)]
      exact Ev.ok
theorem backSs : (l : List St) → BackSs l
  | [] => by
    intro d T t R acc hf hT ht hk
    rw [show T = [] from List.map_eq_nil_iff.1 hT]
    refine ⟨[], rfl, Ev.pure fun g => ?_⟩
    rw [List.nil_append, stmts_end hk ht, List.append_nil]
    rfl
  | s :: r => by
    intro d T t R acc hf hT ht hk
    simp only [FitSs] at hf
    simp only [keysSs] at hT
    obtain ⟨T1, T2, rfl, h1, h2⟩ := split_app hT
    have hne : NoElse (T2 ++ t :: R) := by
      cases r with
      | nil =>
        rw [show T2 = [] from List.map_eq_nil_iff.1 h2]
        exact see_no ht rfl
      | cons s2 r2 =>
        simp only [FitSs] at hf
        obtain ⟨k, q, h3, _, h4, _⟩ := head_st hf.2.1
        simp only [keysSs] at h2
        rw [h3, List.cons_append] at h2
        obtain ⟨t4, T4, rfl, k4, x4, _⟩ := split_cons h2
        exact see_no x4 (beq_eq_false_iff_ne.2 h4)
    obtain ⟨s', hs, h3⟩ := backS s d T1 (T2 ++ t :: R) hf.1 h1 hne
    obtain ⟨r', hr, h4⟩ := backSs r d T2 t R (acc ++ [s']) hf.2 h2 ht hk
    refine ⟨s' :: r', by simp only [stripSs, hs, hr], ?_⟩
    rw [List.append_assoc]
    refine Ev.step (fun g => stmts_more ?_) (Ev.bind (k := fun g s r => stmtsF g d (acc ++ [s]) r) h3 ?_)
    · obtain ⟨k, q, h5, h6, _, _⟩ := head_st hf.1
      rw [h5] at h1
      obtain ⟨t4, T4, rfl, k4, x4, _⟩ := split_cons h1
      exact see_no x4 (beq_eq_false_iff_ne.2 h6)
    · rw [show acc ++ s' :: r' = acc ++ [s'] ++ r' by simp]
      exact h4
end
def keysP (p : List UInt8 × Int) : List (Int × List UInt8) := [(1, p.1), (3, [58]), (1, if p.2 = 2 then kArr else kInt)]
def keysPs : List (List UInt8 × Int) → List (Int × List UInt8)
  | [] => []
  | p :: r => keysP p ++ (match r with | [] => [] | _ :: _ => (3, [44]) :: keysPs r)
def keysF (x : Fn) : List (Int × List UInt8) := (1, kFn) :: (1, x.name) :: (3, [40]) :: (keysPs x.params ++ (3, [41]) :: (3, [123]) :: (keysSs x.body ++ [(3, [125])]))
def keysFs : List Fn → List (Int × List UInt8)
  | [] => []
  | x :: r => keysF x ++ keysFs r
def stripF (x : Fn) : Fn := ⟨x.name, 0, x.params, stripSs x.body⟩
section eqs
variable {g : Nat} {t : Tok} {R : List Tok}
theorem params_end {b : Bool} {l : List (List UInt8 × Int)} (hk : t.kind = 3) (hx : t.text = [41]) : paramsF (g + 1) b l (t :: R) = okP l R := by
  simp only [paramsF]
  rw [see_yes hx (by omega)]
  rfl
end eqs
/-- A parameter is read. -/
theorem param_read {p : List UInt8 × Int} (hn : NameOk p.1) (ht : p.2 = 1 ∨ p.2 = 2) {T R : List Tok} (hT : T.map key = keysP p) (g : Nat) (l : List (List UInt8 × Int)) :
    (andThen (nameP (T ++ R)) fun n r2 => andThen (must [58] r2) fun _ r3 => if seeB kArr r3 then paramsF g false (l ++ [(n, 2)]) r3.tail else andThen (must kInt r3) fun _ r4 => paramsF g false (l ++ [(n, 1)]) r4) = paramsF g false (l ++ [p]) R := by
  unfold keysP at hT
  obtain ⟨t1, T1, rfl, k1, x1, hT⟩ := split_cons hT
  obtain ⟨t2, T2, rfl, k2, x2, hT⟩ := split_cons hT
  obtain ⟨t3, rfl, k3, x3⟩ := split_one hT
  simp only at k1 x1 k2 x2 k3 x3
  obtain ⟨n, ty⟩ := p
  simp only at hn ht x1 x3
  rw [List.cons_append, List.cons_append, List.singleton_append, name_take hn x1 k1]
  simp only [andThen.eq_1]
  rw [must_see x2 (by omega)]
  simp only [andThen.eq_1]
  rcases ht with rfl | rfl
  · rw [if_neg (by omega)] at x3
    rw [see_no (m := kArr) x3 rfl, must_see x3 (by omega)]
    rfl
  · rw [if_pos rfl] at x3
    rw [see_yes (s := kArr) x3 (by omega)]
    rfl
theorem params_read : (ps : List (List UInt8 × Int)) → (b : Bool) → (acc : List (List UInt8 × Int)) → (T : List Tok) → (t : Tok) → (R : List Tok) → (∀ p ∈ ps, NameOk p.1 ∧ (p.2 = 1 ∨ p.2 = 2)) → T.map key = (match ps with | [] => [] | _ :: _ => (if b then [] else [(3, [44])]) ++ keysPs ps) → t.text = [41] → t.kind = 3 → Ev (fun g => paramsF g b acc (T ++ t :: R)) (.ok (acc ++ ps, R))
  | [], b, acc, T, t, R, hp, hT, ht, hk => by
    rw [show T = [] from List.map_eq_nil_iff.1 hT]
    refine Ev.pure fun g => ?_
    rw [List.nil_append, params_end hk ht, List.append_nil]
    rfl
  | p :: r, b, acc, T, t, R, hp, hT, ht, hk => by
    simp only [keysPs] at hT
    obtain ⟨T0, T1, rfl, h0, hT⟩ := split_app hT
    obtain ⟨T2, T3, rfl, h2, h3⟩ := split_app hT
    have ih := params_read r false (acc ++ [p]) T3 t R (fun q hq => hp q (List.mem_cons_of_mem _ hq)) (by cases r <;> exact h3) ht hk
    rw [show acc ++ p :: r = acc ++ [p] ++ r by simp]
    refine Ev.step (fun g => ?_) ih
    obtain ⟨hn, hty⟩ := hp p List.mem_cons_self
    have hpr := param_read hn hty h2 (R := T3 ++ t :: R) g acc
    cases b with
    | true =>
      rw [if_pos rfl] at h0
      rw [show T0 = [] from List.map_eq_nil_iff.1 h0, List.nil_append, List.append_assoc]
      unfold keysP at h2
      obtain ⟨t1, T1, rfl, k1, x1, _⟩ := split_cons h2
      simp only at k1 x1
      have hs : seeB [41] (t1 :: T1 ++ (T3 ++ t :: R)) = false := see_name hn x1 (Or.inl ⟨_, _, rfl, rfl⟩)
      rw [← hpr]
      simp only [paramsF]
      rw [hs]
      rfl
    | false =>
      rw [if_neg (by simp)] at h0
      obtain ⟨t0, rfl, k0, x0⟩ := split_one h0
      simp only at k0 x0
      rw [List.append_assoc, List.singleton_append, List.append_assoc, ← hpr]
      simp only [paramsF]
      rw [see_no (m := [41]) x0 rfl, if_neg (by simp), if_neg (by simp), must_see x0 (by omega)]
      rfl
theorem function_read {x : Fn} (hf : FitF x) {T R : List Tok} (hT : T.map key = keysF x) : ∃ x', stripF x' = stripF x ∧ Ev (fun g => functionF g (T ++ R)) (.ok (x', R)) := by
  unfold keysF at hT
  obtain ⟨t1, T1, rfl, k1, x1, hT⟩ := split_cons hT
  obtain ⟨t2, T2, rfl, k2, x2, hT⟩ := split_cons hT
  obtain ⟨t3, T3, rfl, k3, x3, hT⟩ := split_cons hT
  obtain ⟨T4, T5, rfl, h4, hT⟩ := split_app hT
  obtain ⟨t5, T6, rfl, k5, x5, hT⟩ := split_cons hT
  simp only at k1 x1 k2 x2 k3 x3 k5 x5
  obtain ⟨b', hs, hb⟩ := block_read (backSs x.body) (R := R) (by omega) hf.2.2 hT
  have hp := params_read x.params true [] T4 t5 (T6 ++ R) hf.2.1 (by rw [h4]; cases x.params <;> rfl) x5 k5
  refine ⟨⟨x.name, t1.at_, x.params, b'⟩, by simp only [stripF, hs], ?_⟩
  rw [List.cons_append, List.cons_append, List.cons_append, List.append_assoc, List.cons_append]
  refine Ev.step (G := fun g => andThen (paramsF g true [] (T4 ++ t5 :: (T6 ++ R))) fun ps r4 => andThen (blockF g 0 r4) fun b r5 => okP (Fn.mk x.name t1.at_ ps b) r5) (fun g => ?_) (Ev.bind (k := fun g ps r4 => andThen (blockF g 0 r4) fun b r5 => okP (Fn.mk x.name t1.at_ ps b) r5) hp (Ev.bind (k := fun g b r5 => okP (Fn.mk x.name t1.at_ ([] ++ x.params) b) r5) hb Ev.ok))
  simp only [functionF]
  rw [must_see x1 (by omega)]
  simp only [andThen.eq_1]
  rw [name_take hf.1 x2 k2]
  simp only [andThen.eq_1]
  rw [must_see x3 (by omega)]
  rfl
theorem program_read : (l : List Fn) → (acc : List Fn) → (T : List Tok) → (t : Tok) → (∀ x ∈ l, FitF x) → acc.length + l.length ≤ 12 → T.map key = keysFs l → t.kind = 4 → ∃ l', l'.map stripF = l.map stripF ∧ Ev (fun g => programF g acc (T ++ [t])) (.ok (acc ++ l', [t]))
  | [], acc, T, t, hf, hl, hT, hk => by
    rw [show T = [] from List.map_eq_nil_iff.1 hT]
    refine ⟨[], rfl, Ev.pure fun g => ?_⟩
    simp only [programF]
    rw [if_pos (show headKind ([] ++ [t]) = 4 from hk), List.append_nil]
    rfl
  | x :: r, acc, T, t, hf, hl, hT, hk => by
    simp only [keysFs] at hT
    obtain ⟨T1, T2, rfl, h1, h2⟩ := split_app hT
    obtain ⟨x', hs, hx⟩ := function_read (hf x List.mem_cons_self) (R := T2 ++ [t]) h1
    simp only [List.length_cons] at hl
    obtain ⟨r', hs2, hr⟩ := program_read r (acc ++ [x']) T2 t (fun y hy => hf y (List.mem_cons_of_mem _ hy)) (by simp; omega) h2 hk
    refine ⟨x' :: r', by simp only [List.map_cons, hs, hs2], ?_⟩
    rw [List.append_assoc, show acc ++ x' :: r' = acc ++ [x'] ++ r' by simp]
    refine Ev.step (fun g => ?_) (Ev.bind (k := fun g x r => programF g (acc ++ [x]) r) hx hr)
    unfold keysF at h1
    obtain ⟨t1, T3, rfl, k1, x1, _⟩ := split_cons h1
    simp only at k1
    simp only [programF]
    rw [if_neg (by rw [show headKind (t1 :: T3 ++ (T2 ++ [t])) = 1 from k1]; omega), if_neg (by omega)]
mutual
theorem text_strip : (e : Ex) → textB (stripE e) = textB e ∧ levelB (stripE e) = levelB e ∧ isUn (stripE e) = isUn e
  | .num _ n => ⟨by simp only [stripE, textB], rfl, rfl⟩
  | .var _ s => ⟨by simp only [stripE, textB], rfl, rfl⟩
  | .bin _ op l r => ⟨by simp only [stripE, textB, text_strip l, text_strip r], rfl, rfl⟩
  | .un _ op x => ⟨by simp only [stripE, textB, text_strip x], rfl, rfl⟩
  | .call _ f args => ⟨by simp only [stripE, textB, texts_strip args], rfl, rfl⟩
  | .new _ x => ⟨by simp only [stripE, textB, text_strip x], rfl, rfl⟩
  | .len _ x => ⟨by simp only [stripE, textB, text_strip x], rfl, rfl⟩
  | .item _ x i => ⟨by simp only [stripE, textB, text_strip x, text_strip i], rfl, rfl⟩
  | .input _ => ⟨by simp only [stripE, textB], rfl, rfl⟩
theorem texts_strip : (l : List Ex) → textsB (stripEs l) = textsB l
  | [] => rfl
  | e :: r => by simp only [stripEs, textsB, text_strip e, texts_strip r]
end
theorem stripSs_empty (l : List St) : (stripSs l).isEmpty = l.isEmpty := by cases l <;> rfl
mutual
theorem st_strip (tab : List UInt8) : (s : St) → stB tab (stripS s) = stB tab s
  | .var _ s v => by simp only [stripS, stB, text_strip v]
  | .set _ s v => by simp only [stripS, stB, text_strip v]
  | .put _ s i v => by simp only [stripS, stB, text_strip v, text_strip i]
  | .cond _ v t e => by simp only [stripS, stB, text_strip v, sts_strip _ t, sts_strip _ e, stripSs_empty]
  | .loop _ v t => by simp only [stripS, stB, text_strip v, sts_strip _ t]
  | .ret _ v => by simp only [stripS, stB, text_strip v]
  | .print _ v => by simp only [stripS, stB, text_strip v]
  | .call _ v => by simp only [stripS, stB, text_strip v]
theorem sts_strip (tab : List UInt8) : (l : List St) → stsB tab (stripSs l) = stsB tab l
  | [] => rfl
  | s :: r => by simp only [stripSs, stsB, st_strip tab s, sts_strip tab r]
end
theorem fn_strip (x : Fn) : fnB (stripF x) = fnB x := by simp only [fnB, stripF, sts_strip]
theorem print_strip {l l' : List Fn} (h : l'.map stripF = l.map stripF) : printB l' = printB l := by
  have e : ∀ (m : List Fn), printB m = printB (m.map stripF) := by
    intro m
    unfold printB
    rw [List.map_map]
    congr 1
    apply List.map_congr_left
    intro x _
    exact (fn_strip x).symm
  rw [e l', e l, h]
end Go.Proofs.YtdgedlhefjmcpaaGreatDoor.TreeP
namespace Go.Proofs.YtdgedlhefjmcpaaGreatDoor.TreeP
set_option linter.unusedVariables false
set_option linter.unusedSimpArgs false
/-- The lexer, where no remark stands. -/
def lexG : Nat → List UInt8 → Nat → Nat → Option (Except (Int × Int) (List Tok))
  | 0, _, _, _ => none
  | f + 1, l, p, n =>
    match l with
    | [] => some (.ok [⟨4, [], p⟩])
    | c :: r =>
      if blankB c then lexG f r (p + 1) n
      else if c.toNat == 35 then none
      else
        let k := nextP l
        if k.2 = 0 then some (.error (3, p))
        else if n = 1500 then some (.error (4, p))
        else match lexG f (l.drop k.2) (p + k.2) (n + 1) with
          | some (.ok t) => some (.ok (⟨k.1, l.take k.2, p⟩ :: t))
          | x => x
theorem lexG_lexF : (f : Nat) → (l : List UInt8) → (p n : Nat) → (T : List Tok) → lexG f l p n = some (.ok T) → lexF f l p n = some (.ok T)
  | 0, l, p, n, T, h => by simp [lexG] at h
  | f + 1, [], p, n, T, h => by simpa only [lexG, lexF] using h
  | f + 1, c :: r, p, n, T, h => by
    simp only [lexG] at h
    simp only [lexF]
    split at h
    · rename_i hb
      rw [if_pos hb]
      exact lexG_lexF f _ _ _ T h
    · rename_i hb
      rw [if_neg hb]
      split at h
      · cases h
      · rename_i h35
        rw [if_neg h35]
        split at h
        · cases h
        · rename_i h0
          rw [if_neg h0]
          split at h
          · cases h
          · rename_i h15
            rw [if_neg h15]
            split at h
            · rename_i T1 hT1
              rw [lexG_lexF f _ _ _ T1 hT1]
              exact h
            · rename_i hx
              exact absurd h (hx T)
def LexE (l : List UInt8) (p n : Nat) (T : List Tok) : Prop := ∃ f, lexG f l p n = some (.ok T)
/-- Ahead of this text, it is lexed so. -/
def Lx (l : List UInt8) (ks : List (Int × List UInt8)) (m : List UInt8) : Prop := ∀ p n, n + ks.length ≤ 1500 → ∃ T, T.map key = ks ∧ ∀ T', LexE m (p + l.length) (n + ks.length) T' → LexE (l ++ m) p n (T ++ T')
theorem Lx.nil (m : List UInt8) : Lx [] [] m := fun p n h => ⟨[], rfl, fun T' hT => hT⟩
theorem Lx.append {l1 l2 : List UInt8} {k1 k2 : List (Int × List UInt8)} {m : List UInt8} (h1 : Lx l1 k1 (l2 ++ m)) (h2 : Lx l2 k2 m) : Lx (l1 ++ l2) (k1 ++ k2) m := by
  intro p n h
  simp only [List.length_append] at h ⊢
  obtain ⟨T1, e1, a1⟩ := h1 p n (by omega)
  obtain ⟨T2, e2, a2⟩ := h2 (p + l1.length) (n + k1.length) (by omega)
  refine ⟨T1 ++ T2, by rw [List.map_append, e1, e2], fun T' hT => ?_⟩
  rw [List.append_assoc, List.append_assoc]
  exact a1 _ (a2 _ (by rwa [Nat.add_assoc, Nat.add_assoc]))
theorem Lx.blank {c : UInt8} {m : List UInt8} (h : blankB c = true) : Lx [c] [] m := by
  intro p n hn
  refine ⟨[], rfl, fun T' hT => ?_⟩
  obtain ⟨f, hf⟩ := hT
  refine ⟨f + 1, ?_⟩
  rw [List.singleton_append]
  simp only [lexG]
  rw [if_pos h]
  exact hf
theorem Lx.blanks : {l : List UInt8} → {m : List UInt8} → l.all blankB = true → Lx l [] m
  | [], m, _ => Lx.nil m
  | c :: r, m, h => by
    simp only [List.all_cons, Bool.and_eq_true] at h
    exact Lx.append (l1 := [c]) (k1 := []) (k2 := []) (Lx.blank h.1) (Lx.blanks h.2)
/-- What stands next makes one token. -/
theorem Lx.tok {k : Int} {s m : List UInt8} (hs : ∃ c r, s = c :: r ∧ blankB c = false ∧ (c.toNat == 35) = false) (h : nextP (s ++ m) = (k, s.length)) : Lx s [(k, s)] m := by
  obtain ⟨c, r, rfl, hb, h35⟩ := hs
  intro p n hn
  refine ⟨[⟨k, c :: r, p⟩], rfl, fun T' hT => ?_⟩
  obtain ⟨f, hf⟩ := hT
  refine ⟨f + 1, ?_⟩
  rw [List.cons_append] at h ⊢
  simp only [List.length_singleton] at hn hf
  simp only [lexG]
  rw [hb, if_neg (by simp), h35, if_neg (by simp), h]
  simp only [List.length_cons]
  rw [if_neg (by omega), if_neg (by omega)]
  have h1 : (c :: (r ++ m)).drop (r.length + 1) = m := by simp
  have h2 : (c :: (r ++ m)).take (r.length + 1) = c :: r := by simp
  rw [h1, h2]
  simp only [List.length_cons] at hf
  rw [hf]
  rfl
/-- What may follow a word, a number or a bracket. -/
def Follow (m : List UInt8) : Prop := ∀ c r, m = c :: r → letterB c = false ∧ digitB c = false
def NoEq (m : List UInt8) : Prop := ∀ c r, m = c :: r → c ≠ 61
theorem takeWhile_all (p : UInt8 → Bool) : (s : List UInt8) → (m : List UInt8) → s.all p = true → (∀ c r, m = c :: r → p c = false) → (s ++ m).takeWhile p = s
  | [], [], _, _ => rfl
  | [], c :: r, _, h => by rw [List.nil_append, List.takeWhile_cons, h c r rfl]; rfl
  | a :: r, m, hs, h => by
    simp only [List.all_cons, Bool.and_eq_true] at hs
    rw [List.cons_append, List.takeWhile_cons, if_pos hs.1, takeWhile_all p r m hs.2 h]
theorem letter_plain {c : UInt8} (h : letterB c = true) : blankB c = false ∧ (c.toNat == 35) = false := by
  unfold letterB at h
  unfold blankB
  simp only [Bool.or_eq_true, Bool.and_eq_true, decide_eq_true_eq, beq_iff_eq] at h
  simp only [Bool.or_eq_false_iff, beq_eq_false_iff_ne]
  omega
theorem digit_plain {c : UInt8} (h : digitB c = true) : blankB c = false ∧ (c.toNat == 35) = false ∧ letterB c = false := by
  unfold digitB at h
  unfold blankB letterB
  simp only [Bool.and_eq_true, decide_eq_true_eq] at h
  simp only [Bool.or_eq_false_iff, beq_eq_false_iff_ne, Bool.and_eq_false_iff, decide_eq_false_iff_not]
  omega
theorem Lx.word {s m : List UInt8} (h1 : ∃ c r, s = c :: r ∧ letterB c = true) (h2 : s.all (fun x => letterB x || digitB x) = true) (hm : Follow m) : Lx s [(1, s)] m := by
  obtain ⟨c, r, rfl, hc⟩ := h1
  obtain ⟨p1, p2⟩ := letter_plain hc
  refine Lx.tok ⟨c, r, rfl, p1, p2⟩ ?_
  have ht := takeWhile_all (fun x => letterB x || digitB x) (c :: r) m h2 (fun c r h => by obtain ⟨a, b⟩ := hm c r h; rw [a, b]; rfl)
  rw [List.cons_append] at ht ⊢
  simp only [nextP]
  rw [if_pos hc, ht]
theorem Lx.number {s m : List UInt8} (h1 : s ≠ []) (h2 : s.all digitB = true) (hm : Follow m) : Lx s [(2, s)] m := by
  cases s with
  | nil => exact absurd rfl h1
  | cons c r =>
    have hc : digitB c = true := by simp only [List.all_cons, Bool.and_eq_true] at h2; exact h2.1
    obtain ⟨p1, p2, p3⟩ := digit_plain hc
    refine Lx.tok ⟨c, r, rfl, p1, p2⟩ ?_
    have ht := takeWhile_all digitB (c :: r) m h2 (fun c r h => (hm c r h).2)
    rw [List.cons_append] at ht ⊢
    simp only [nextP]
    rw [p3, if_neg (by simp), if_pos hc, ht]
theorem find_mark {s m : List UInt8} (h : s ∈ markList) (hm : NoEq m) : markList.find? (fun k => k.isPrefixOf (s ++ m)) = some s := by
  cases m with
  | nil =>
    have : ∀ s ∈ markList, markList.find? (fun k => k.isPrefixOf (s ++ [])) = some s := by decide
    exact this s h
  | cons c r =>
    have hc : (61 == c) = false := by
      have := hm c r rfl
      rw [beq_eq_false_iff_ne]
      exact fun h => this h.symm
    simp only [markList, List.mem_cons, List.not_mem_nil, or_false] at h
    rcases h with rfl | rfl | rfl | rfl | rfl | rfl | rfl | rfl | rfl | rfl | rfl | rfl | rfl | rfl | rfl | rfl | rfl | rfl | rfl | rfl | rfl | rfl | rfl | rfl <;> simp [markList, List.find?, List.isPrefixOf, hc]
theorem Lx.mark {s m : List UInt8} (h : s ∈ markList) (hm : NoEq m) : Lx s [(3, s)] m := by
  have key : ∀ s ∈ markList, (match s with | [] => false | c :: _ => !blankB c && !(c.toNat == 35) && !letterB c && !digitB c) = true := by decide
  have hk := key s h
  have hf := find_mark h hm
  cases s with
  | nil => simp at hk
  | cons c r =>
    simp only [Bool.and_eq_true, Bool.not_eq_true'] at hk
    refine Lx.tok ⟨c, r, rfl, hk.1.1.1, hk.1.1.2⟩ ?_
    rw [List.cons_append] at hf ⊢
    simp only [nextP]
    rw [hk.1.2, hk.2, if_neg (by simp), if_neg (by simp), hf]
def After (m : List UInt8) : Prop := Follow m ∧ NoEq m
theorem follow_cons {c : UInt8} {r : List UInt8} (h : letterB c = false ∧ digitB c = false) : Follow (c :: r) := by
  rintro _ _ ⟨⟩
  exact h
theorem noeq_cons {c : UInt8} {r : List UInt8} (h : c ≠ 61) : NoEq (c :: r) := by
  rintro _ _ ⟨⟩
  exact h
theorem after_cons {c : UInt8} {r : List UInt8} (h : letterB c = false ∧ digitB c = false) (h2 : c ≠ 61) : After (c :: r) := ⟨follow_cons h, noeq_cons h2⟩
theorem after_nil : After [] := ⟨fun _ _ h => (nomatch h), fun _ _ h => (nomatch h)⟩
section parts
variable {l m : List UInt8} {ks : List (Int × List UInt8)}
theorem Lx.bl {c : UInt8} (h : blankB c = true) (hl : Lx l ks m) : Lx (c :: l) ks m := Lx.append (l1 := [c]) (k1 := []) (Lx.blank h) hl
theorem Lx.mk_ {s : List UInt8} (h : s ∈ markList) (h2 : NoEq (l ++ m)) (hl : Lx l ks m) : Lx (s ++ l) ((3, s) :: ks) m := Lx.append (k1 := [(3, s)]) (Lx.mark h h2) hl
theorem Lx.wo {s : List UInt8} (h1 : ∃ c r, s = c :: r ∧ letterB c = true) (h2 : s.all (fun x => letterB x || digitB x) = true) (h : Follow (l ++ m)) (hl : Lx l ks m) : Lx (s ++ l) ((1, s) :: ks) m := Lx.append (k1 := [(1, s)]) (Lx.word h1 h2 h) hl
theorem Lx.na {s : List UInt8} (hs : NameOk s) (h : Follow (l ++ m)) (hl : Lx l ks m) : Lx (s ++ l) ((1, s) :: ks) m := Lx.wo hs.1 hs.2.1 h hl
theorem Lx.ke {s : List UInt8} (hs : s ∈ keptList) (h : Follow (l ++ m)) (hl : Lx l ks m) : Lx (s ++ l) ((1, s) :: ks) m := by
  have key : ∀ s ∈ keptList, (match s with | [] => false | c :: _ => letterB c) = true ∧ s.all (fun x => letterB x || digitB x) = true := by decide
  obtain ⟨h1, h2⟩ := key s hs
  refine Lx.wo ?_ h2 h hl
  cases s with
  | nil => simp at h1
  | cons c r => exact ⟨c, r, rfl, h1⟩
end parts
theorem mark_head {op : List UInt8} (h : ∃ k, k < 6 ∧ op ∈ levelList.getD k []) : op ∈ markList := by
  obtain ⟨k, hk, h⟩ := h
  obtain rfl | rfl | rfl | rfl | rfl | rfl : k = 0 ∨ k = 1 ∨ k = 2 ∨ k = 3 ∨ k = 4 ∨ k = 5 := by omega
  all_goals
    simp only [levelList, List.getD_cons_zero, List.getD_cons_succ, List.mem_cons, List.not_mem_nil, or_false] at h
    rcases h with rfl | rfl | rfl | rfl <;> decide
theorem name_head {s : List UInt8} (h : NameOk s) : ∃ c r, s = c :: r ∧ c ≠ 61 := by
  obtain ⟨⟨c, r, rfl, hc⟩, _⟩ := h
  refine ⟨c, r, rfl, ?_⟩
  rintro rfl
  cases hc
/-- How an expression's text begins. -/
theorem text_head : (e : Ex) → (d : Nat) → Fit e d → ∃ c r, textB e = c :: r ∧ c ≠ 61
  | .num _ n, d, h => by
    simp only [Fit] at h
    obtain ⟨h1, h2, h3⟩ := itoa_digits h.2.1
    simp only [textB]
    cases hi : Lib.itoa n with
    | nil => exact absurd hi h2
    | cons c r =>
      refine ⟨c, r, rfl, ?_⟩
      rintro rfl
      rw [hi] at h1
      cases h1
  | .var _ s, d, h => by
    simp only [Fit] at h
    simp only [textB]
    exact name_head h.2
  | .bin _ op l r, d, h => by
    simp only [Fit] at h
    simp only [textB, paren]
    have h2 := h.2.1
    split
    · rename_i hc
      rw [if_neg (by omega)] at h2
      obtain ⟨c, q, h3, h4⟩ := text_head l d h2
      rw [h3]
      exact ⟨_, _, by simp only [List.cons_append]; rfl, h4⟩
    · exact ⟨_, _, by simp only [List.cons_append, List.nil_append]; rfl, by decide⟩
  | .un _ op x, d, h => by
    simp only [Fit] at h
    simp only [textB]
    rcases h.2.1 with rfl | rfl <;> exact ⟨_, _, rfl, by decide⟩
  | .call _ f args, d, h => by
    simp only [Fit] at h
    simp only [textB]
    obtain ⟨c, r, h1, h2⟩ := name_head h.2.1
    rw [h1]
    exact ⟨_, _, by simp only [List.cons_append]; rfl, h2⟩
  | .new _ x, d, h => ⟨_, _, by simp only [textB, List.cons_append]; rfl, by decide⟩
  | .len _ x, d, h => ⟨_, _, by simp only [textB, List.cons_append]; rfl, by decide⟩
  | .item _ x i, d, h => by
    simp only [Fit] at h
    simp only [textB, paren]
    have h2 := h.2.1
    split
    · exact ⟨_, _, by simp only [List.cons_append, List.nil_append]; rfl, by decide⟩
    · rename_i hu
      rw [if_neg hu] at h2
      split
      · rename_i hc
        rw [if_neg (by omega)] at h2
        obtain ⟨c, q, h3, h4⟩ := text_head x d h2
        rw [h3]
        exact ⟨_, _, by simp only [List.cons_append]; rfl, h4⟩
      · exact ⟨_, _, by simp only [List.cons_append, List.nil_append]; rfl, by decide⟩
  | .input _, d, h => ⟨_, _, by simp only [textB]; rfl, by decide⟩
theorem text_noeq {e : Ex} {d : Nat} (h : Fit e d) (m : List UInt8) : NoEq (textB e ++ m) := by
  obtain ⟨c, r, h1, h2⟩ := text_head e d h
  rw [h1]
  exact noeq_cons h2
theorem text_noeq2 {e : Ex} {d : Nat} (h : Fit e d) (l m : List UInt8) : NoEq (textB e ++ l ++ m) := by
  rw [List.append_assoc]
  exact text_noeq h _
/-- In brackets. -/
theorem lx_par {e : Ex} {d : Nat} (hf : Fit e d) (h : ∀ m, After m → Lx (textB e) (keysE e) m) {l m : List UInt8} {ks : List (Int × List UInt8)} (hm : NoEq (l ++ m)) (hl : Lx l ks m) : Lx (40 :: (textB e ++ 41 :: l)) (par (keysE e) ++ ks) m := by
  unfold par
  rw [List.cons_append, List.cons_append, List.append_assoc, List.singleton_append]
  refine Lx.mk_ (s := [40]) (by decide) (text_noeq2 hf _ _) (Lx.append (h _ (after_cons ⟨rfl, rfl⟩ (by decide))) (Lx.mk_ (s := [41]) (by decide) hm hl))
/-- Where a level may stand. -/
theorem lx_paren {e : Ex} {d lv : Nat} (hf : if levelB e < lv then d ≤ 12 ∧ Fit e (d + 1) else Fit e d) (h : ∀ m, After m → Lx (textB e) (keysE e) m) {l m : List UInt8} {ks : List (Int × List UInt8)} (hm : After (l ++ m)) (hl : Lx l ks m) : Lx (paren (levelB e) lv (textB e) ++ l) (parK lv e (keysE e) ++ ks) m := by
  unfold paren parK
  by_cases hc : levelB e < lv
  · rw [if_pos hc] at hf ⊢
    rw [if_neg (by omega)]
    simp only [List.append_assoc, List.cons_append, List.nil_append]
    exact lx_par hf.2 h hm.2 hl
  · rw [if_neg hc, if_pos (by omega)]
    exact Lx.append (h _ hm) hl
theorem paren_noeq {e : Ex} {d lv : Nat} (hf : if levelB e < lv then d ≤ 12 ∧ Fit e (d + 1) else Fit e d) (m : List UInt8) : NoEq (paren (levelB e) lv (textB e) ++ m) := by
  unfold paren
  split
  · rw [if_neg (by omega)] at hf
    exact text_noeq hf m
  · simp only [List.append_assoc, List.cons_append, List.nil_append]
    exact noeq_cons (by decide)
theorem tail_after (l : List (List UInt8)) {m : List UInt8} (h : After m) : After (Lib.joinTail [44, 32] l ++ m) := by
  cases l with
  | nil => exact h
  | cons a r => exact after_cons ⟨rfl, rfl⟩ (by decide)
mutual
theorem lx_ex : (e : Ex) → (d : Nat) → Fit e d → (m : List UInt8) → After m → Lx (textB e) (keysE e) m
  | .num _ n, d, h, m, hm => by
    simp only [Fit] at h
    simp only [textB, keysE]
    obtain ⟨h1, h2, h3⟩ := itoa_digits h.2.1
    exact Lx.number h2 h1 hm.1
  | .var _ s, d, h, m, hm => by
    simp only [Fit] at h
    simp only [textB, keysE]
    exact Lx.word h.2.1 h.2.2.1 hm.1
  | .bin _ op l r, d, h, m, hm => by
    simp only [Fit] at h
    simp only [textB, keysE, List.append_assoc, List.cons_append, List.nil_append]
    have hr := lx_paren (l := []) (ks := []) h.2.2 (fun m hm => by
      have h2 := h.2.2
      split at h2
      · exact lx_ex r (d + 1) h2.2 m hm
      · exact lx_ex r d h2 m hm) (by rw [List.nil_append]; exact hm) (Lx.nil m)
    rw [List.append_nil, List.append_nil] at hr
    refine lx_paren h.2.1 (fun m hm => by
      have h2 := h.2.1
      split at h2
      · exact lx_ex l (d + 1) h2.2 m hm
      · exact lx_ex l d h2 m hm) (by rw [List.cons_append]; exact after_cons ⟨rfl, rfl⟩ (by decide)) (Lx.bl rfl (Lx.mk_ (mark_head h.1) (by rw [List.cons_append]; exact noeq_cons (by decide)) (Lx.bl rfl hr)))
  | .un _ op x, d, h, m, hm => by
    simp only [Fit] at h
    simp only [textB, keysE]
    have hr := lx_paren (l := []) (ks := []) (lv := 6) h.2.2 (fun m hm => by
      have h2 := h.2.2
      split at h2
      · exact lx_ex x (d + 2) h2.2 m hm
      · exact lx_ex x (d + 1) h2 m hm) (by rw [List.nil_append]; exact hm) (Lx.nil m)
    rw [List.append_nil, List.append_nil] at hr
    exact Lx.mk_ (by rcases h.2.1 with rfl | rfl <;> decide) (paren_noeq h.2.2 m) hr
  | .call _ f args, d, h, m, hm => by
    simp only [Fit] at h
    simp only [textB, keysE, List.append_assoc, List.cons_append, List.nil_append]
    refine Lx.na h.2.1 (by rw [List.cons_append]; exact follow_cons ⟨rfl, rfl⟩) ?_
    cases args with
    | nil =>
      simp only [textsB, keysA, Lib.join_nil, List.nil_append]
      exact Lx.mk_ (s := [40]) (by decide) (by rw [List.singleton_append]; exact noeq_cons (by decide)) (Lx.mark (s := [41]) (by decide) hm.2)
    | cons e r =>
      simp only [Fits] at h
      simp only [textsB, Lib.join_cons, List.append_assoc]
      rw [keysA_cons, List.append_assoc]
      refine Lx.mk_ (s := [40]) (by decide) (text_noeq2 h.2.2.1 _ _) (Lx.append (lx_ex e (d + 1) h.2.2.1 _ (by rw [List.append_assoc]; exact tail_after _ (after_cons ⟨rfl, rfl⟩ (by decide)))) (Lx.append (lx_tail r (d + 1) h.2.2.2 _ (after_cons ⟨rfl, rfl⟩ (by decide))) (Lx.mark (s := [41]) (by decide) hm.2)))
  | .new _ x, d, h, m, hm => by
    simp only [Fit] at h
    simp only [textB, keysE, List.append_assoc, List.cons_append, List.nil_append]
    have hp := lx_par h.2 (fun m hm => lx_ex x (d + 1) h.2 m hm) (l := []) (m := m) (by rw [List.nil_append]; exact hm.2) (Lx.nil m)
    rw [List.append_nil] at hp
    exact Lx.ke (s := kNew) (by decide) (by rw [List.cons_append]; exact follow_cons ⟨rfl, rfl⟩) hp
  | .len _ x, d, h, m, hm => by
    simp only [Fit] at h
    simp only [textB, keysE, List.append_assoc, List.cons_append, List.nil_append]
    have hp := lx_par h.2 (fun m hm => lx_ex x (d + 1) h.2 m hm) (l := []) (m := m) (by rw [List.nil_append]; exact hm.2) (Lx.nil m)
    rw [List.append_nil] at hp
    exact Lx.ke (s := kLen) (by decide) (by rw [List.cons_append]; exact follow_cons ⟨rfl, rfl⟩) hp
  | .item _ x i, d, h, m, hm => by
    simp only [Fit] at h
    simp only [textB, keysE, List.append_assoc, List.cons_append, List.nil_append]
    have hi : Lx (91 :: (textB i ++ [93])) ((3, [91]) :: (keysE i ++ [(3, [93])])) m := Lx.mk_ (s := [91]) (by decide) (text_noeq2 h.2.2 _ _) (Lx.append (lx_ex i (d + 1) h.2.2 _ (after_cons ⟨rfl, rfl⟩ (by decide))) (Lx.mark (s := [93]) (by decide) hm.2))
    have h2 := h.2.1
    by_cases hu : isUn x = true
    · rw [if_pos hu] at h2
      rw [if_pos hu, if_pos hu]
      simp only [List.append_assoc, List.cons_append, List.nil_append]
      exact lx_par h2 (fun m hm => lx_ex x (d + 1) h2 m hm) (by rw [List.cons_append]; exact noeq_cons (by decide)) hi
    · rw [if_neg hu] at h2
      rw [if_neg hu, if_neg hu]
      exact lx_paren h2 (fun m hm => by
        split at h2
        · exact lx_ex x (d + 1) h2.2 m hm
        · exact lx_ex x d h2 m hm) (by rw [List.cons_append]; exact after_cons ⟨rfl, rfl⟩ (by decide)) hi
  | .input _, d, h, m, hm => by
    simp only [textB, keysE, par]
    exact Lx.ke (s := kInput) (l := [40, 41]) (by decide) (follow_cons ⟨rfl, rfl⟩) (Lx.mk_ (s := [40]) (l := [41]) (by decide) (noeq_cons (by decide)) (Lx.mark (s := [41]) (by decide) hm.2))
theorem lx_tail : (l : List Ex) → (d : Nat) → Fits l d → (m : List UInt8) → After m → Lx (Lib.joinTail [44, 32] (textsB l)) (keysB l) m
  | [], d, h, m, hm => Lx.nil m
  | e :: r, d, h, m, hm => by
    simp only [Fits] at h
    have ht : Lib.joinTail [44, 32] (textsB (e :: r)) = 44 :: 32 :: (textB e ++ Lib.joinTail [44, 32] (textsB r)) := by
      simp only [textsB, Lib.joinTail, List.map_cons, List.flatten_cons, List.cons_append, List.nil_append]
    rw [ht]
    show Lx _ ((3, [44]) :: keysA (e :: r)) m
    rw [keysA_cons]
    exact Lx.mk_ (s := [44]) (by decide) (by rw [List.cons_append]; exact noeq_cons (by decide)) (Lx.bl rfl (Lx.append (lx_ex e d h.1 _ (tail_after _ hm)) (lx_tail r d h.2 m hm)))
end
end Go.Proofs.YtdgedlhefjmcpaaGreatDoor.TreeP
namespace Go.Proofs.YtdgedlhefjmcpaaGreatDoor.TreeP
set_option linter.unusedVariables false
set_option linter.unusedSimpArgs false
theorem lx_end {v : Ex} {d : Nat} (h : Fit v d) (m : List UInt8) : Lx (textB v ++ [59, 10]) (keysE v ++ [(3, [59])]) m :=
  Lx.append (lx_ex v d h _ (after_cons ⟨rfl, rfl⟩ (by decide))) (Lx.mk_ (s := [59]) (l := [10]) (by decide) (noeq_cons (by decide)) (Lx.blank rfl))
theorem blank_tab {tab : List UInt8} (h : tab.all blankB = true) : (tab ++ sp).all blankB = true := by
  rw [List.all_append, h]
  rfl
/-- A block. -/
theorem lx_block {tab x l m : List UInt8} {ks kx : List (Int × List UInt8)} (ht : tab.all blankB = true) (hx : ∀ m, Lx x kx m) (hm : NoEq (l ++ m)) (hl : Lx l ks m) : Lx (123 :: 10 :: (x ++ (tab ++ 125 :: l))) ((3, [123]) :: (kx ++ (3, [125]) :: ks)) m :=
  Lx.mk_ (s := [123]) (l := 10 :: (x ++ (tab ++ 125 :: l))) (by decide) (noeq_cons (by decide)) (Lx.bl rfl (Lx.append (hx _) (Lx.append (k1 := []) (Lx.blanks ht) (Lx.mk_ (s := [125]) (by decide) hm hl))))
theorem fol {c : UInt8} {l m : List UInt8} (h : letterB c = false ∧ digitB c = false) : Follow (c :: l ++ m) := follow_cons h
theorem neq {c : UInt8} {l m : List UInt8} (h : c ≠ 61) : NoEq (c :: l ++ m) := noeq_cons h
mutual
theorem lx_st : (s : St) → (d : Nat) → FitS s d → (tab : List UInt8) → tab.all blankB = true → (m : List UInt8) → Lx (stB tab s) (keysS s) m
  | .var _ s v, d, h, tab, ht, m => by
    simp only [FitS] at h
    simp only [stB, keysS, isSp, semi, List.append_assoc, List.cons_append, List.nil_append]
    exact Lx.append (k1 := []) (Lx.blanks ht) (Lx.ke (s := kVar) (l := 32 :: (s ++ 32 :: 61 :: 32 :: (textB v ++ [59, 10]))) (by decide) (fol ⟨rfl, rfl⟩) (Lx.bl rfl (Lx.na h.1 (fol ⟨rfl, rfl⟩) (Lx.bl rfl (Lx.mk_ (s := [61]) (l := 32 :: (textB v ++ [59, 10])) (by decide) (neq (by decide)) (Lx.bl rfl (lx_end h.2 m)))))))
  | .set _ s v, d, h, tab, ht, m => by
    simp only [FitS] at h
    simp only [stB, keysS, isSp, semi, List.append_assoc, List.cons_append, List.nil_append]
    exact Lx.append (k1 := []) (Lx.blanks ht) (Lx.na h.1 (fol ⟨rfl, rfl⟩) (Lx.bl rfl (Lx.mk_ (s := [61]) (l := 32 :: (textB v ++ [59, 10])) (by decide) (neq (by decide)) (Lx.bl rfl (lx_end h.2 m)))))
  | .put _ s i v, d, h, tab, ht, m => by
    simp only [FitS] at h
    simp only [stB, keysS, isSp, semi, List.append_assoc, List.cons_append, List.nil_append]
    exact Lx.append (k1 := []) (Lx.blanks ht) (Lx.na h.1 (fol ⟨rfl, rfl⟩) (Lx.mk_ (s := [91]) (l := textB i ++ 93 :: 32 :: 61 :: 32 :: (textB v ++ [59, 10])) (by decide) (text_noeq2 h.2.1 _ _) (Lx.append (lx_ex i 1 h.2.1 _ (after_cons ⟨rfl, rfl⟩ (by decide))) (Lx.mk_ (s := [93]) (l := 32 :: 61 :: 32 :: (textB v ++ [59, 10])) (by decide) (neq (by decide)) (Lx.bl rfl (Lx.mk_ (s := [61]) (l := 32 :: (textB v ++ [59, 10])) (by decide) (neq (by decide)) (Lx.bl rfl (lx_end h.2.2 m))))))))
  | .cond _ v t e, d, h, tab, ht, m => by
    simp only [FitS] at h
    simp only [stB, keysS, List.append_assoc, List.cons_append, List.nil_append]
    refine Lx.append (k1 := []) (Lx.blanks ht) (Lx.ke (s := kIf) (by decide) (fol (c := 32) ⟨rfl, rfl⟩) (Lx.bl rfl (lx_par h.1 (fun m hm => lx_ex v 1 h.1 m hm) (neq (c := 32) (by decide)) (Lx.bl rfl ?_))))
    by_cases he : e.isEmpty = true
    · rw [if_pos he, if_pos he, List.nil_append]
      exact lx_block ht (fun m => lx_sts t (d + 1) h.2.2.1 _ (blank_tab ht) m) (neq (by decide)) (Lx.blank rfl)
    · rw [if_neg he, if_neg he]
      simp only [List.append_assoc, List.cons_append, List.nil_append]
      exact lx_block ht (fun m => lx_sts t (d + 1) h.2.2.1 _ (blank_tab ht) m) (neq (by decide)) (Lx.bl rfl (Lx.ke (s := kElse) (by decide) (fol (c := 32) ⟨rfl, rfl⟩) (Lx.bl rfl (lx_block ht (fun m => lx_sts e (d + 1) h.2.2.2 _ (blank_tab ht) m) (neq (by decide)) (Lx.blank rfl)))))
  | .loop _ v t, d, h, tab, ht, m => by
    simp only [FitS] at h
    simp only [stB, keysS, List.append_assoc, List.cons_append, List.nil_append]
    exact Lx.append (k1 := []) (Lx.blanks ht) (Lx.ke (s := kWhile) (by decide) (fol (c := 32) ⟨rfl, rfl⟩) (Lx.bl rfl (lx_par h.1 (fun m hm => lx_ex v 1 h.1 m hm) (neq (c := 32) (by decide)) (Lx.bl rfl (lx_block ht (fun m => lx_sts t (d + 1) h.2.2 _ (blank_tab ht) m) (neq (by decide)) (Lx.blank rfl))))))
  | .ret _ v, d, h, tab, ht, m => by
    simp only [FitS] at h
    simp only [stB, keysS, semi, List.append_assoc, List.cons_append, List.nil_append]
    exact Lx.append (k1 := []) (Lx.blanks ht) (Lx.ke (s := kReturn) (l := 32 :: (textB v ++ [59, 10])) (by decide) (fol ⟨rfl, rfl⟩) (Lx.bl rfl (lx_end h m)))
  | .print _ v, d, h, tab, ht, m => by
    simp only [FitS] at h
    simp only [stB, keysS, semi, List.append_assoc, List.cons_append, List.nil_append]
    exact Lx.append (k1 := []) (Lx.blanks ht) (Lx.ke (s := kPrint) (l := 32 :: (textB v ++ [59, 10])) (by decide) (fol ⟨rfl, rfl⟩) (Lx.bl rfl (lx_end h m)))
  | .call _ v, d, h, tab, ht, m => by
    simp only [FitS] at h
    simp only [stB, keysS, semi]
    exact Lx.append (k1 := []) (Lx.blanks ht) (lx_end h.2 m)
theorem lx_sts : (l : List St) → (d : Nat) → FitSs l d → (tab : List UInt8) → tab.all blankB = true → (m : List UInt8) → Lx (stsB tab l) (keysSs l) m
  | [], d, h, tab, ht, m => Lx.nil m
  | s :: r, d, h, tab, ht, m => by
    simp only [FitSs] at h
    simp only [stsB, keysSs]
    exact Lx.append (lx_st s d h.1 tab ht _) (lx_sts r d h.2 tab ht m)
end
theorem lx_param {p : List UInt8 × Int} (hn : NameOk p.1) (ht : p.2 = 1 ∨ p.2 = 2) {m : List UInt8} (hm : Follow m) : Lx (paramB p) (keysP p) m := by
  obtain ⟨n, t⟩ := p
  simp only at hn ht
  unfold paramB keysP tyB
  simp only [List.append_assoc, List.cons_append, List.nil_append]
  rcases ht with rfl | rfl
  · exact Lx.na hn (fol ⟨rfl, rfl⟩) (Lx.mk_ (s := [58]) (l := [32, 105, 110, 116]) (by decide) (neq (by decide)) (Lx.bl rfl (Lx.word (s := kInt) ⟨_, _, rfl, rfl⟩ rfl hm)))
  · exact Lx.na hn (fol ⟨rfl, rfl⟩) (Lx.mk_ (s := [58]) (l := [32, 97, 114, 114]) (by decide) (neq (by decide)) (Lx.bl rfl (Lx.word (s := kArr) ⟨_, _, rfl, rfl⟩ rfl hm)))
def keysPB (l : List (List UInt8 × Int)) : List (Int × List UInt8) := match l with | [] => [] | _ :: _ => (3, [44]) :: keysPs l
theorem keysPs_cons (p : List UInt8 × Int) (r : List (List UInt8 × Int)) : keysPs (p :: r) = keysP p ++ keysPB r := by
  simp only [keysPs]
  cases r <;> rfl
theorem lx_ptail : (l : List (List UInt8 × Int)) → (∀ p ∈ l, NameOk p.1 ∧ (p.2 = 1 ∨ p.2 = 2)) → (m : List UInt8) → After m → Lx (Lib.joinTail [44, 32] (l.map paramB)) (keysPB l) m
  | [], h, m, hm => Lx.nil m
  | p :: r, h, m, hm => by
    have ht : Lib.joinTail [44, 32] ((p :: r).map paramB) = 44 :: 32 :: (paramB p ++ Lib.joinTail [44, 32] (r.map paramB)) := by
      simp only [Lib.joinTail, List.map_cons, List.flatten_cons, List.cons_append, List.nil_append]
    rw [ht]
    show Lx _ ((3, [44]) :: keysPs (p :: r)) m
    rw [keysPs_cons]
    obtain ⟨h1, h2⟩ := h p List.mem_cons_self
    exact Lx.mk_ (s := [44]) (l := 32 :: (paramB p ++ Lib.joinTail [44, 32] (r.map paramB))) (by decide) (neq (by decide)) (Lx.bl rfl (Lx.append (lx_param h1 h2 (tail_after _ hm).1) (lx_ptail r (fun q hq => h q (List.mem_cons_of_mem _ hq)) m hm)))
theorem lx_fn {x : Fn} (h : FitF x) (m : List UInt8) : Lx (fnB x) (keysF x) m := by
  obtain ⟨hn, hp, hb⟩ := h
  simp only [fnB, keysF, List.append_assoc, List.cons_append, List.nil_append]
  have hblk : Lx (123 :: 10 :: (stsB sp x.body ++ ([] ++ 125 :: [10]))) ((3, [123]) :: (keysSs x.body ++ (3, [125]) :: [])) m := lx_block rfl (fun m => lx_sts x.body 0 hb sp rfl m) (neq (by decide)) (Lx.blank rfl)
  have hrest : Lx (41 :: 32 :: 123 :: 10 :: (stsB sp x.body ++ [125, 10])) ((3, [41]) :: (3, [123]) :: (keysSs x.body ++ [(3, [125])])) m := Lx.mk_ (s := [41]) (by decide) (neq (c := 32) (by decide)) (Lx.bl rfl hblk)
  refine Lx.ke (s := kFn) (by decide) (fol (c := 32) ⟨rfl, rfl⟩) (Lx.bl rfl (Lx.na hn (fol (c := 40) ⟨rfl, rfl⟩) ?_))
  cases hps : x.params with
  | nil =>
    simp only [List.map_nil, Lib.join_nil, List.nil_append, keysPs]
    exact Lx.mk_ (s := [40]) (by decide) (neq (c := 41) (by decide)) hrest
  | cons p r =>
    rw [hps] at hp
    obtain ⟨h1, h2⟩ := hp p List.mem_cons_self
    simp only [List.map_cons, Lib.join_cons, List.append_assoc]
    rw [keysPs_cons, List.append_assoc]
    refine Lx.mk_ (s := [40]) (by decide) ?_ (Lx.append (lx_param h1 h2 (by rw [List.append_assoc]; exact (tail_after _ (after_cons ⟨rfl, rfl⟩ (by decide))).1)) (Lx.append (lx_ptail r (fun q hq => hp q (List.mem_cons_of_mem _ hq)) _ (after_cons ⟨rfl, rfl⟩ (by decide))) hrest))
    obtain ⟨c, q, h3, h4⟩ := name_head h1
    unfold paramB
    rw [h3]
    exact noeq_cons h4
theorem lx_program : (l : List Fn) → (∀ x ∈ l, FitF x) → (m : List UInt8) → Lx (printB l) (keysFs l) m
  | [], h, m => Lx.nil m
  | x :: r, h, m => by
    have hp : printB (x :: r) = fnB x ++ printB r := by simp only [printB, List.map_cons, List.flatten_cons]
    rw [hp]
    exact Lx.append (lx_fn (h x List.mem_cons_self) _) (lx_program r (fun y hy => h y (List.mem_cons_of_mem _ hy)) m)
theorem lexed {l : List Fn} (h : ∀ x ∈ l, FitF x) (hn : (keysFs l).length ≤ 1500) : ∃ T p, T.map key = keysFs l ∧ LexE (printB l) 0 0 (T ++ [⟨4, [], p⟩]) := by
  obtain ⟨T, h1, h2⟩ := lx_program l h [] 0 0 (by omega)
  refine ⟨T, ((0 + (printB l).length : Nat) : Int), h1, ?_⟩
  have := h2 [⟨4, [], ((0 + (printB l).length : Nat) : Int)⟩] ⟨1, rfl⟩
  rwa [List.append_nil] at this
theorem par_len (k : List (Int × List UInt8)) : (par k).length = k.length + 2 := by simp [par]
theorem parK_len (lv : Nat) (e : Ex) (k : List (Int × List UInt8)) : (parK lv e k).length = k.length + parN lv e := by
  unfold parK parN
  split
  · exact par_len k
  · rfl
mutual
theorem keys_cnt : (e : Ex) → (keysE e).length = cnt e
  | .num .. => rfl
  | .var .. => rfl
  | .bin _ op l r => by
    simp only [keysE, cnt, List.length_append, List.length_cons, parK_len, keys_cnt l, keys_cnt r]
    omega
  | .un _ op x => by
    simp only [keysE, cnt, List.length_cons, parK_len, keys_cnt x]
    omega
  | .call _ f args => by
    simp only [keysE, cnt, List.length_append, List.length_cons, List.length_nil, keysA_cnt args]
    omega
  | .new _ x => by
    simp only [keysE, cnt, List.length_cons, par_len, keys_cnt x]
    omega
  | .len _ x => by
    simp only [keysE, cnt, List.length_cons, par_len, keys_cnt x]
    omega
  | .item _ x i => by
    simp only [keysE, cnt, List.length_append, List.length_cons, List.length_nil, keys_cnt i]
    split
    · simp only [par_len, keys_cnt x]; omega
    · simp only [parK_len, keys_cnt x]; omega
  | .input .. => rfl
theorem keysA_cnt : (l : List Ex) → (keysA l).length = cnts l
  | [] => rfl
  | [e] => by simp only [keysA, cnts, List.length_append, List.length_nil, keys_cnt e]
  | e :: e2 :: r => by
    have := keysA_cnt (e2 :: r)
    rw [keysA, cnts, List.length_append, keys_cnt e]
    simp only [List.length_cons, this]
    omega
end
mutual
theorem keysS_cnt : (s : St) → (keysS s).length = cntS s
  | .var _ s v => by simp only [keysS, cntS, List.length_append, List.length_cons, List.length_nil, keys_cnt v]; omega
  | .set _ s v => by simp only [keysS, cntS, List.length_append, List.length_cons, List.length_nil, keys_cnt v]; omega
  | .put _ s i v => by simp only [keysS, cntS, List.length_append, List.length_cons, List.length_nil, keys_cnt v, keys_cnt i]; omega
  | .cond _ v t e => by
    simp only [keysS, cntS, List.length_append, List.length_cons, List.length_nil, par_len, keys_cnt v, keysSs_cnt t]
    split
    · simp only [List.length_nil]; omega
    · simp only [List.length_append, List.length_cons, List.length_nil, keysSs_cnt e]; omega
  | .loop _ v t => by simp only [keysS, cntS, List.length_append, List.length_cons, List.length_nil, par_len, keys_cnt v, keysSs_cnt t]; omega
  | .ret _ v => by simp only [keysS, cntS, List.length_append, List.length_cons, List.length_nil, keys_cnt v]; omega
  | .print _ v => by simp only [keysS, cntS, List.length_append, List.length_cons, List.length_nil, keys_cnt v]; omega
  | .call _ v => by simp only [keysS, cntS, List.length_append, List.length_cons, List.length_nil, keys_cnt v]; omega
theorem keysSs_cnt : (l : List St) → (keysSs l).length = cntSs l
  | [] => rfl
  | s :: r => by simp only [keysSs, cntSs, List.length_append, keysS_cnt s, keysSs_cnt r]
end
theorem keysPs_cnt : (l : List (List UInt8 × Int)) → (keysPs l).length = cntPs l
  | [] => rfl
  | [p] => rfl
  | p :: q :: r => by
    have := keysPs_cnt (q :: r)
    rw [keysPs, cntPs, List.length_append]
    simp only [List.length_cons, this, keysP, List.length_nil]
    omega
theorem keysF_cnt (x : Fn) : (keysF x).length = cntF x := by
  simp only [keysF, cntF, List.length_append, List.length_cons, List.length_nil, keysPs_cnt, keysSs_cnt]
  omega
theorem keysFs_cnt : (l : List Fn) → (keysFs l).length = cntFs l
  | [] => rfl
  | x :: r => by simp only [keysFs, cntFs, List.length_append, keysF_cnt, keysFs_cnt r]
end Go.Proofs.YtdgedlhefjmcpaaGreatDoor.TreeP
namespace Go.Proofs.YtdgedlhefjmcpaaGreatDoor.TreeP
set_option linter.unusedVariables false
set_option linter.unusedSimpArgs false
theorem dropWhile_le (p : UInt8 → Bool) : (l : List UInt8) → (l.dropWhile p).length ≤ l.length
  | [] => Nat.le_refl _
  | c :: r => by
    rw [List.dropWhile_cons]
    split
    · exact Nat.le_trans (dropWhile_le p r) (by simp)
    · exact Nat.le_refl _
theorem lex_runs : (f : Nat) → (l : List UInt8) → (p n : Nat) → l.length < f → lexF f l p n ≠ none
  | 0, l, p, n, h => by omega
  | f + 1, [], p, n, h => by simp [lexF]
  | f + 1, c :: r, p, n, h => by
    simp only [List.length_cons] at h
    simp only [lexF]
    split
    · exact lex_runs f r _ _ (by omega)
    · split
      · rename_i hb hc
        have : ((c :: r).dropWhile fun x => x.toNat != 10) = (r.dropWhile fun x => x.toNat != 10) := by
          rw [List.dropWhile_cons, if_pos]
          rw [beq_iff_eq] at hc
          simp [hc]
        rw [this]
        exact lex_runs f _ _ _ (Nat.lt_of_le_of_lt (dropWhile_le _ r) (by omega))
      · split
        · simp
        · split
          · simp
          · rename_i h0 hn
            have := lex_runs f ((c :: r).drop (nextP (c :: r)).2) (p + (nextP (c :: r)).2) (n + 1) (by simp; omega)
            split
            · simp
            · assumption
theorem next_ok {c : UInt8} {r : List UInt8} (h0 : ¬ (nextP (c :: r)).2 = 0) (p : Nat) : TokOk ⟨(nextP (c :: r)).1, (c :: r).take (nextP (c :: r)).2, p⟩ := by
  unfold TokOk
  simp only
  by_cases h1 : letterB c = true
  · have hn : nextP (c :: r) = (1, ((c :: r).takeWhile fun x => letterB x || digitB x).length) := by simp only [nextP]; rw [if_pos h1]
    have ht : (c :: r).take ((c :: r).takeWhile fun x => letterB x || digitB x).length = (c :: r).takeWhile fun x => letterB x || digitB x := by
      have h2 := List.takeWhile_append_dropWhile (p := fun x => letterB x || digitB x) (l := c :: r)
      conv => lhs; arg 2; rw [← h2]
      exact List.take_left' rfl
    rw [hn]
    simp only
    rw [ht]
    refine ⟨fun _ => ⟨⟨c, r.takeWhile fun x => letterB x || digitB x, ?_, h1⟩, ?_⟩, Or.inl trivial, fun h => by omega⟩
    · rw [List.takeWhile_cons, if_pos (by rw [h1]; rfl)]
    · exact List.all_takeWhile
  · by_cases h2 : digitB c = true
    · have hn : nextP (c :: r) = (2, ((c :: r).takeWhile digitB).length) := by simp only [nextP]; rw [if_neg h1, if_pos h2]
      rw [hn]
      exact ⟨fun h => by omega, Or.inr (Or.inl rfl), fun h => by omega⟩
    · have hn : (nextP (c :: r)).1 = 3 := by
        simp only [nextP]
        rw [if_neg h1, if_neg h2]
        split <;> rfl
      rw [hn]
      exact ⟨fun h => by omega, Or.inr (Or.inr (Or.inl rfl)), fun h => by omega⟩
theorem lex_gives : (f : Nat) → (l : List UInt8) → (p n : Nat) → (ts : List Tok) → n ≤ 1500 → lexF f l p n = some (.ok ts) → ToksOk ts ∧ ts.length + n ≤ 1501
  | 0, l, p, n, ts, hn, h => by simp [lexF] at h
  | f + 1, [], p, n, ts, hn, h => by
    simp only [lexF, Option.some.injEq, Except.ok.injEq] at h
    subst h
    refine ⟨⟨fun t ht => ?_, ⟨_, rfl⟩⟩, by simp; omega⟩
    rw [List.mem_singleton] at ht
    subst ht
    exact ⟨fun h => by simp at h, Or.inr (Or.inr (Or.inr rfl)), fun _ => rfl⟩
  | f + 1, c :: r, p, n, ts, hn, h => by
    simp only [lexF] at h
    split at h
    · exact lex_gives f _ _ _ ts hn h
    · split at h
      · exact lex_gives f _ _ _ ts hn h
      · split at h
        · simp at h
        · rename_i h0
          split at h
          · simp at h
          · rename_i h15
            split at h
            · rename_i t ht
              simp only [Option.some.injEq, Except.ok.injEq] at h
              subst h
              obtain ⟨⟨a1, a2⟩, a3⟩ := lex_gives f _ _ _ t (by omega) ht
              refine ⟨⟨fun u hu => ?_, ?_⟩, by simp only [List.length_cons]; omega⟩
              · rw [List.mem_cons] at hu
                rcases hu with rfl | hu
                · exact next_ok h0 p
                · exact a1 u hu
              · obtain ⟨a, ha⟩ := a2
                refine ⟨a, ?_⟩
                cases t with
                | nil => simp at ha
                | cons u q => rw [List.getLast?_cons_cons]; exact ha
            · rename_i hx
              exact absurd h (hx ts)
/-- Rounds enough. -/
structure Runs (f : Nat) : Prop where
  expr : ∀ {lv d ts}, lv ≤ 6 → 12 * ts.length + 10 - lv ≤ f → exprF f lv d ts ≠ none
  bin : ∀ {lv d a x ts}, lv < 6 → 12 * ts.length + 1 ≤ f → binF f lv d a x ts ≠ none
  unary : ∀ {d ts}, 12 * ts.length + 3 ≤ f → unaryF f d ts ≠ none
  item : ∀ {d a x ts}, 12 * ts.length + 1 ≤ f → itemF f d a x ts ≠ none
  alone : ∀ {d ts}, 12 * ts.length + 1 ≤ f → aloneF f d ts ≠ none
  first : ∀ {d ts}, 12 * ts.length + 2 ≤ f → firstF f d ts ≠ none
  args : ∀ {d ts}, 12 * ts.length + 1 ≤ f → argsF f d ts ≠ none
  rest : ∀ {d b l ts}, 12 * ts.length + 11 ≤ f → restF f d b l ts ≠ none
theorem andThen_runs {α β : Type} {x : PR α} {k : α → List Tok → PR β} (h : x ≠ none) (hk : ∀ a r, x = some (.ok (a, r)) → k a r ≠ none) : andThen x k ≠ none := by
  unfold andThen
  split
  · exact hk _ _ rfl
  · simp
  · exact absurd rfl h
theorem must_runs (s : List UInt8) (ts : List Tok) : must s ts ≠ none := by
  unfold must
  split <;> simp [okP, failP]
theorem name_runs (ts : List Tok) : nameP ts ≠ none := by
  unfold nameP
  split
  · simp [failP]
  · split <;> simp [okP, failP]
theorem okP_runs {α : Type} (a : α) (ts : List Tok) : okP a ts ≠ none := by simp [okP]
theorem failP_runs {α : Type} (n : Int) (ts : List Tok) : (failP n ts : PR α) ≠ none := by simp [failP]
theorem op_less {lv : Nat} {ts : List Tok} (h : ¬ opP lv ts = []) : ts.tail.length < ts.length := by
  refine see_less (s := opP lv ts) ?_
  unfold opP at h ⊢
  cases hf : (levelList.getD lv []).find? (fun m => seeB m ts) with
  | none => rw [hf] at h; exact absurd rfl h
  | some m => exact List.find?_some (p := fun m => seeB m ts) hf
theorem runs : (f : Nat) → Runs f
  | 0 => ⟨fun _ h => by omega, fun _ h => by omega, fun h => by omega, fun h => by omega, fun h => by omega, fun h => by omega, fun h => by omega, fun h => by omega⟩
  | f + 1 => by
    have ih := runs f
    have L := lens f
    refine ⟨?_, ?_, ?_, ?_, ?_, ?_, ?_, ?_⟩
    · intro lv d ts hl h
      simp only [exprF]
      split
      · exact ih.unary (by omega)
      · refine andThen_runs (ih.expr (by omega) (by omega)) fun x r hx => ih.bin (by omega) ?_
        have := L.expr hx
        omega
    · intro lv d a x ts hl h
      simp only [binF]
      split
      · exact okP_runs _ _
      · rename_i ho
        have := op_less ho
        refine andThen_runs (ih.expr (by omega) (by omega)) fun x r hx => ih.bin hl ?_
        have := L.expr hx
        omega
    · intro d ts h
      simp only [unaryF]
      split
      · exact failP_runs _ _
      · split
        · rename_i hs
          have := see_less hs
          exact andThen_runs (ih.unary (by omega)) fun x r hx => okP_runs _ _
        · split
          · rename_i hs
            have := see_less hs
            exact andThen_runs (ih.unary (by omega)) fun x r hx => okP_runs _ _
          · refine andThen_runs (ih.first (by omega)) fun x r hx => ih.item ?_
            have := L.first hx
            omega
    · intro d a x ts h
      simp only [itemF]
      split
      · rename_i hs
        have := see_less hs
        refine andThen_runs (ih.expr (by omega) (by omega)) fun x r hx => andThen_runs (must_runs _ _) fun u r2 hu => ih.item ?_
        have := L.expr hx
        have := must_less hu
        omega
      · exact okP_runs _ _
    · intro d ts h
      simp only [aloneF]
      refine andThen_runs (must_runs _ _) fun u r hu => andThen_runs (ih.expr (by omega) ?_) fun x r2 hx => andThen_runs (must_runs _ _) fun _ _ _ => okP_runs _ _
      have := must_less hu
      omega
    · intro d ts h
      simp only [firstF]
      split
      · split
        · exact okP_runs _ _
        · exact failP_runs _ _
      · split
        · exact ih.alone (by omega)
        · split
          · rename_i hs
            have := see_less hs
            exact andThen_runs (ih.alone (by omega)) fun x r hx => okP_runs _ _
          · split
            · rename_i hs
              have := see_less hs
              exact andThen_runs (ih.alone (by omega)) fun x r hx => okP_runs _ _
            · split
              · exact andThen_runs (must_runs _ _) fun u r hu => andThen_runs (must_runs _ _) fun _ _ _ => okP_runs _ _
              · refine andThen_runs (name_runs _) fun n r hn => ?_
                have := name_less hn
                split
                · exact andThen_runs (ih.args (by omega)) fun _ _ _ => okP_runs _ _
                · exact okP_runs _ _
    · intro d ts h
      simp only [argsF]
      refine andThen_runs (must_runs _ _) fun u r hu => ih.rest ?_
      have := must_less hu
      omega
    · intro d b l ts h
      simp only [restF]
      split
      · exact okP_runs _ _
      · refine andThen_runs (by split; exact okP_runs _ _; exact must_runs _ _) fun u r hu => ?_
        have hr : r.length ≤ ts.length := by
          split at hu
          · rw [(okP_ok hu).2]; exact Nat.le_refl _
          · exact Nat.le_of_lt (must_less hu)
        refine andThen_runs (ih.expr (by omega) (by omega)) fun x r2 hx => ih.rest ?_
        have := L.expr hx
        omega
end Go.Proofs.YtdgedlhefjmcpaaGreatDoor.TreeP

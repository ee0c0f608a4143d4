/- What is spelled is read again, but for places: statements, functions, programs. No program in sight. No conditions. -/
import Derived.Test.YtinbahmpifokaaaDoorBackEx
import Derived.Test.YtinbahmpifokaaaDoorBackMade
namespace Go.Proofs.YtinbahmpifokaaaDoor.TreeP
set_option linter.unusedVariables false
set_option linter.unusedSimpArgs false
mutual
def keysS : St → List (Int × List UInt8)
  | .var _ s v => (1, kVar) :: (1, s) :: (3, [61]) :: (keysE v ++ [(3, [59])])
  | .set _ s v => (1, s) :: (3, [61]) :: (keysE v ++ [(3, [59])])
  | .put _ s i v => (1, s) :: (3, [91]) :: (keysE i ++ (3, [93]) :: (3, [61]) :: (keysE v ++ [(3, [59])]))
  | .cond _ v t e => (1, kIf) :: (par (keysE v) ++ ((3, [123]) :: (keysSs t ++ [(3, [125])]) ++ (if e.isEmpty then [] else (1, kElse) :: (3, [123]) :: (keysSs e ++ [(3, [125])]))))
  | .loop _ v t => (1, kWhile) :: (par (keysE v) ++ (3, [123]) :: (keysSs t ++ [(3, [125])]))
  | .ret _ v => (1, kReturn) :: (keysE v ++ [(3, [59])])
  | .print _ v => (1, kPrint) :: (keysE v ++ [(3, [59])])
  | .call _ v => keysE v ++ [(3, [59])]
def keysSs : List St → List (Int × List UInt8)
  | [] => []
  | s :: r => keysS s ++ keysSs r
end
mutual
def stripS : St → St
  | .var _ s v => .var 0 s (stripE v)
  | .set _ s v => .set 0 s (stripE v)
  | .put _ s i v => .put 0 s (stripE i) (stripE v)
  | .cond _ v t e => .cond 0 (stripE v) (stripSs t) (stripSs e)
  | .loop _ v t => .loop 0 (stripE v) (stripSs t)
  | .ret _ v => .ret 0 (stripE v)
  | .print _ v => .print 0 (stripE v)
  | .call _ v => .call 0 (stripE v)
def stripSs : List St → List St
  | [] => []
  | s :: r => stripS s :: stripSs r
end
def NoElse (R : List Tok) : Prop := seeB kElse R = false
/-- An expression, and a mark that ends it. -/
theorem expr_end {e : Ex} {d : Nat} {T R : List Tok} {t : Tok} (hf : Fit e d) (hT : T.map key = keysE e) (ht : endB t.text) : ∃ e', stripE e' = stripE e ∧ Ev (fun g => exprF g 0 d (T ++ t :: R)) (.ok (e', t :: R)) := by
  obtain ⟨c1, c2, c3⟩ := end_follow (R := R) ht
  exact (back e).at_ (Nat.zero_le _) hf hT c1 c2 c3
theorem semi_end {α : Type} {e : Ex} {d : Nat} {T R : List Tok} (hf : Fit e d) (hT : T.map key = keysE e ++ [(3, [59])]) (mk : Ex → α) : ∃ e', stripE e' = stripE e ∧ Ev (fun g => andThen (exprF g 0 d (T ++ R)) fun v r => andThen (must [59] r) fun _ r2 => okP (mk v) r2) (.ok (mk e', R)) := by
  obtain ⟨T1, T2, rfl, h1, h2⟩ := split_app hT
  obtain ⟨t, rfl, k, x⟩ := split_one h2
  simp only at k x
  obtain ⟨e', hs, he⟩ := expr_end (R := R) hf h1 (t := t) (by rw [x]; exact Or.inr (Or.inr (Or.inr rfl)))
  refine ⟨e', hs, ?_⟩
  rw [List.append_assoc, List.singleton_append]
  refine Ev.bind (k := fun g v r => andThen (must [59] r) fun _ r2 => okP (mk v) r2) he ?_
  rw [must_see x (by omega)]
  exact Ev.ok
section eqs
variable {g d : Nat} {t : Tok} {R : List Tok}
theorem st_if (hk : t.kind = 1) (hx : t.text = kIf) : stmtF (g + 1) d (t :: R) = andThen (aloneF g 0 R) fun v r => andThen (blockF g (d + 1) r) fun b r2 => if seeB kElse r2 then andThen (blockF g (d + 1) r2.tail) fun e r3 => okP (.cond t.at_ v b e) r3 else okP (.cond t.at_ v b []) r2 := by
  simp only [stmtF]
  rw [see_yes hx (by omega)]
  rfl
theorem st_while (hk : t.kind = 1) (hx : t.text = kWhile) : stmtF (g + 1) d (t :: R) = andThen (aloneF g 0 R) fun v r => andThen (blockF g (d + 1) r) fun b r2 => okP (.loop t.at_ v b) r2 := by
  simp only [stmtF]
  rw [see_no (m := kIf) hx rfl, see_yes hx (by omega)]
  rfl
theorem st_var (hk : t.kind = 1) (hx : t.text = kVar) : stmtF (g + 1) d (t :: R) = andThen (nameP R) fun n r => andThen (must [61] r) fun _ r2 => andThen (exprF g 0 0 r2) fun v r3 => andThen (must [59] r3) fun _ r4 => okP (.var t.at_ n v) r4 := by
  simp only [stmtF]
  rw [see_no (m := kIf) hx rfl, see_no (m := kWhile) hx rfl, see_yes hx (by omega)]
  rfl
theorem st_ret (hk : t.kind = 1) (hx : t.text = kReturn) : stmtF (g + 1) d (t :: R) = andThen (exprF g 0 0 R) fun v r => andThen (must [59] r) fun _ r2 => okP (.ret t.at_ v) r2 := by
  simp only [stmtF]
  rw [see_no (m := kIf) hx rfl, see_no (m := kWhile) hx rfl, see_no (m := kVar) hx rfl, see_yes hx (by omega)]
  rfl
theorem st_print (hk : t.kind = 1) (hx : t.text = kPrint) : stmtF (g + 1) d (t :: R) = andThen (exprF g 0 0 R) fun v r => andThen (must [59] r) fun _ r2 => okP (.print t.at_ v) r2 := by
  simp only [stmtF]
  rw [see_no (m := kIf) hx rfl, see_no (m := kWhile) hx rfl, see_no (m := kVar) hx rfl, see_no (m := kReturn) hx rfl, see_yes hx (by omega)]
  rfl
theorem st_named {s : List UInt8} (h : NameOk s) (hx : t.text = s) : stmtF (g + 1) d (t :: R) = andThen (namedF g (t :: R)) fun s r => andThen (must [59] r) fun _ r2 => okP s r2 := by
  simp only [stmtF]
  rw [see_name (m := kIf) h hx (Or.inr rfl), see_name (m := kWhile) h hx (Or.inr rfl), see_name (m := kVar) h hx (Or.inr rfl), see_name (m := kReturn) h hx (Or.inr rfl), see_name (m := kPrint) h hx (Or.inr rfl)]
  rfl
theorem named_eq {s : List UInt8} (h : NameOk s) (hk : t.kind = 1) (hx : t.text = s) : namedF (g + 1) (t :: R) = if seeB [40] R then andThen (argsF g 0 R) fun l r2 => okP (.call t.at_ (.call t.at_ s l)) r2
      else if seeB [91] R then
        andThen (exprF g 0 1 R.tail) fun i r2 => andThen (must [93] r2) fun _ r3 => andThen (must [61] r3) fun _ r4 => andThen (exprF g 0 0 r4) fun v r5 => okP (.put t.at_ s i v) r5
      else andThen (must [61] R) fun _ r2 => andThen (exprF g 0 0 r2) fun v r3 => okP (.set t.at_ s v) r3 := by
  simp only [namedF]
  rw [name_take h hx hk]
  rfl
theorem block_eq (hd : d ≤ 12) (hk : t.kind = 3) (hx : t.text = [123]) : blockF (g + 1) d (t :: R) = stmtsF g d [] R := by
  simp only [blockF]
  rw [if_neg (by omega), must_see hx (by omega)]
  rfl
theorem stmts_end {l : List St} (hk : t.kind = 3) (hx : t.text = [125]) : stmtsF (g + 1) d l (t :: R) = okP l R := by
  simp only [stmtsF]
  rw [see_yes hx (by omega)]
  rfl
theorem stmts_more {l : List St} {ts : List Tok} (h : seeB [125] ts = false) : stmtsF (g + 1) d l ts = andThen (stmtF g d ts) fun s r => stmtsF g d (l ++ [s]) r := by
  simp only [stmtsF]
  rw [h]
  rfl
end eqs
/-- A statement's first token. -/
theorem head_st {s : St} {d : Nat} (h : FitS s d) : ∃ k r, keysS s = k :: r ∧ k.2 ≠ [125] ∧ k.2 ≠ kElse ∧ k.2 ≠ [] := by
  have name : ∀ {n : List UInt8}, NameOk n → n ≠ [125] ∧ n ≠ kElse ∧ n ≠ [] := by
    intro n hn
    refine ⟨?_, ?_, ?_⟩
    · have := name_not (m := [125]) hn (Or.inl ⟨_, _, rfl, rfl⟩)
      rwa [beq_eq_false_iff_ne] at this
    · have := name_not (m := kElse) hn (Or.inr rfl)
      rwa [beq_eq_false_iff_ne] at this
    · obtain ⟨⟨c, r, rfl, _⟩, _⟩ := hn
      simp
  cases s with
  | var _ s v => exact ⟨_, _, rfl, by simp [kVar], by simp [kVar, kElse], by simp [kVar]⟩
  | set _ s v => simp only [FitS] at h; exact ⟨_, _, rfl, name h.1⟩
  | put _ s i v => simp only [FitS] at h; exact ⟨_, _, rfl, name h.1⟩
  | cond _ v t e => exact ⟨_, _, rfl, by simp [kIf], by simp [kIf, kElse], by simp [kIf]⟩
  | loop _ v t => exact ⟨_, _, rfl, by simp [kWhile], by simp [kWhile, kElse], by simp [kWhile]⟩
  | ret _ v => exact ⟨_, _, rfl, by simp [kReturn], by simp [kReturn, kElse], by simp [kReturn]⟩
  | print _ v => exact ⟨_, _, rfl, by simp [kPrint], by simp [kPrint, kElse], by simp [kPrint]⟩
  | call _ v =>
    simp only [FitS] at h
    obtain ⟨⟨a, f, l, rfl⟩, h2⟩ := h
    simp only [Fit] at h2
    exact ⟨_, _, rfl, name h2.2.1⟩
def BackS (s : St) : Prop := ∀ (d : Nat) (T R : List Tok), FitS s d → T.map key = keysS s → NoElse R → ∃ s', stripS s' = stripS s ∧ Ev (fun g => stmtF g d (T ++ R)) (.ok (s', R))
def BackSs (l : List St) : Prop := ∀ (d : Nat) (T : List Tok) (t : Tok) (R : List Tok) (acc : List St), FitSs l d → T.map key = keysSs l → t.text = [125] → t.kind = 3 → ∃ l', stripSs l' = stripSs l ∧ Ev (fun g => stmtsF g d acc (T ++ t :: R)) (.ok (acc ++ l', R))
theorem block_read {l : List St} (h : BackSs l) {d : Nat} {T R : List Tok} (hd : d ≤ 12) (hf : FitSs l d) (hT : T.map key = (3, [123]) :: (keysSs l ++ [(3, [125])])) : ∃ l', stripSs l' = stripSs l ∧ Ev (fun g => blockF g d (T ++ R)) (.ok (l', R)) := by
  obtain ⟨t1, T1, rfl, k1, x1, hT⟩ := split_cons hT
  obtain ⟨T2, T3, rfl, hT2, hT3⟩ := split_app hT
  obtain ⟨t3, rfl, k3, x3⟩ := split_one hT3
  simp only at k1 x1 k3 x3
  obtain ⟨l', hs, hl⟩ := h d T2 t3 R [] hf hT2 x3 k3
  refine ⟨l', hs, ?_⟩
  rw [List.cons_append, List.append_assoc, List.singleton_append]
  exact Ev.step (fun g => block_eq hd k1 x1) hl
theorem stripSs_nil {l : List St} (h : stripSs l = stripSs []) : l = [] := by
  cases l with
  | nil => rfl
  | cons a r => simp [stripSs] at h
mutual
theorem backS : (s : St) → BackS s
  | .var a n v => by
    intro d T R hf hT hn
    simp only [FitS] at hf
    simp only [keysS] at hT
    obtain ⟨t1, T1, rfl, k1, x1, hT⟩ := split_cons hT
    obtain ⟨t2, T2, rfl, k2, x2, hT⟩ := split_cons hT
    obtain ⟨t3, T3, rfl, k3, x3, hT⟩ := split_cons hT
    simp only at k1 x1 k2 x2 k3 x3
    obtain ⟨v', hs, hv⟩ := semi_end (R := R) hf.2 hT (St.var t1.at_ n)
    refine ⟨.var t1.at_ n v', by simp only [stripS, hs], ?_⟩
    simp only [List.cons_append]
    refine Ev.step (fun g => st_var k1 x1) ?_
    rw [name_take hf.1 x2 k2]
    simp only [andThen.eq_1]
    rw [must_see x3 (by omega)]
    simp only [andThen.eq_1]
    exact hv
  | .set a n v => by
    intro d T R hf hT hn
    simp only [FitS] at hf
    simp only [keysS] at hT
    obtain ⟨t2, T2, rfl, k2, x2, hT⟩ := split_cons hT
    obtain ⟨t3, T3, rfl, k3, x3, hT⟩ := split_cons hT
    obtain ⟨T4, T5, rfl, h4, h5⟩ := split_app hT
    obtain ⟨t6, rfl, k6, x6⟩ := split_one h5
    simp only at k2 x2 k3 x3 k6 x6
    obtain ⟨v', hs, hv⟩ := expr_end (R := R) hf.2 h4 (t := t6) (by rw [x6]; exact Or.inr (Or.inr (Or.inr rfl)))
    refine ⟨.set t2.at_ n v', by simp only [stripS, hs], ?_⟩
    rw [List.cons_append, List.cons_append, List.append_assoc, List.singleton_append]
    refine Ev.step (fun g => st_named hf.1 x2) (Ev.bind (k := fun g s r => andThen (must [59] r) fun _ r2 => okP s r2) (R := t6 :: R) (Ev.step (fun g => ?_) (Ev.bind (k := fun g v r3 => okP (St.set t2.at_ n v) r3) hv Ev.ok)) ?_)
    · rw [named_eq hf.1 k2 x2, see_no (m := [40]) x3 rfl, see_no (m := [91]) x3 rfl, must_see x3 (by omega)]
      rfl
    · rw [must_see x6 (by omega)]
      exact Ev.ok
  | .put a n i v => by
    intro d T R hf hT hn
    simp only [FitS] at hf
    simp only [keysS] at hT
    obtain ⟨t2, T2, rfl, k2, x2, hT⟩ := split_cons hT
    obtain ⟨t3, T3, rfl, k3, x3, hT⟩ := split_cons hT
    obtain ⟨T4, T5, rfl, h4, hT⟩ := split_app hT
    obtain ⟨t5, T6, rfl, k5, x5, hT⟩ := split_cons hT
    obtain ⟨t6, T7, rfl, k6, x6, hT⟩ := split_cons hT
    obtain ⟨T8, T9, rfl, h8, h9⟩ := split_app hT
    obtain ⟨t9, rfl, k9, x9⟩ := split_one h9
    simp only at k2 x2 k3 x3 k5 x5 k6 x6 k9 x9
    obtain ⟨v', hs, hv⟩ := expr_end (R := R) hf.2.2 h8 (t := t9) (by rw [x9]; exact Or.inr (Or.inr (Or.inr rfl)))
    obtain ⟨i', hsi, hi⟩ := expr_end (R := t6 :: (T8 ++ t9 :: R)) hf.2.1 h4 (t := t5) (by rw [x5]; exact Or.inr (Or.inl rfl))
    refine ⟨.put t2.at_ n i' v', by simp only [stripS, hs, hsi], ?_⟩
    rw [List.cons_append, List.cons_append, List.append_assoc, List.cons_append, List.cons_append, List.append_assoc, List.singleton_append]
    refine Ev.step (fun g => st_named hf.1 x2) (Ev.bind (k := fun g s r => andThen (must [59] r) fun _ r2 => okP s r2) (a := St.put t2.at_ n i' v') (R := t9 :: R) (Ev.step (G := fun g => andThen (exprF g 0 1 (T4 ++ t5 :: t6 :: (T8 ++ t9 :: R))) fun i r2 => andThen (must [93] r2) fun _ r3 => andThen (must [61] r3) fun _ r4 => andThen (exprF g 0 0 r4) fun v r5 => okP (St.put t2.at_ n i v) r5) (fun g => ?_) (Ev.bind (k := fun g i r2 => andThen (must [93] r2) fun _ r3 => andThen (must [61] r3) fun _ r4 => andThen (exprF g 0 0 r4) fun v r5 => okP (St.put t2.at_ n i v) r5) hi ?_)) ?_)
    · rw [named_eq hf.1 k2 x2, see_no (m := [40]) x3 rfl, see_yes (s := [91]) x3 (by omega)]
      rfl
    · rw [must_see x5 (by omega)]
      simp only [andThen.eq_1]
      rw [must_see x6 (by omega)]
      simp only [andThen.eq_1]
      exact Ev.bind (k := fun g v r5 => okP (St.put t2.at_ n i' v) r5) hv Ev.ok
    · rw [must_see x9 (by omega)]
      exact Ev.ok
  | .cond a v t e => by
    intro d T R hf hT hn
    simp only [FitS] at hf
    simp only [keysS] at hT
    obtain ⟨t1, T1, rfl, k1, x1, hT⟩ := split_cons hT
    simp only at k1 x1
    obtain ⟨T2, T3, rfl, h2, hT⟩ := split_app hT
    obtain ⟨T4, T5, rfl, h4, hT⟩ := split_app hT
    obtain ⟨v', hsv, hv⟩ := (back v).alone (R := T4 ++ (T5 ++ R)) hf.1 h2
    obtain ⟨t', hst, ht⟩ := block_read (backSs t) (R := T5 ++ R) hf.2.1 hf.2.2.1 h4
    have ih := backSs e
    cases e with
    | nil =>
      rw [show T5 = [] from List.map_eq_nil_iff.1 hT] at hv ht ⊢
      refine ⟨.cond t1.at_ v' t' [], by simp only [stripS, hsv, hst], ?_⟩
      rw [List.cons_append, List.append_assoc, List.append_assoc]
      refine Ev.step (fun g => st_if k1 x1) (Ev.bind (k := fun g v r => andThen (blockF g (d + 1) r) fun b r2 => if seeB kElse r2 then andThen (blockF g (d + 1) r2.tail) fun e r3 => okP (St.cond t1.at_ v b e) r3 else okP (St.cond t1.at_ v b []) r2) hv (Ev.bind (k := fun g b r2 => if seeB kElse r2 then andThen (blockF g (d + 1) r2.tail) fun e r3 => okP (St.cond t1.at_ v' b e) r3 else okP (St.cond t1.at_ v' b []) r2) ht ?_))
      rw [List.nil_append, show seeB kElse R = false from hn]
      exact Ev.ok
    | cons e1 er =>
      rw [List.isEmpty_cons, if_neg (by simp)] at hT
      obtain ⟨t6, T6, rfl, k6, x6, hT⟩ := split_cons hT
      simp only at k6 x6
      obtain ⟨e', hse, he⟩ := block_read ih (R := R) hf.2.1 hf.2.2.2 hT
      refine ⟨.cond t1.at_ v' t' e', by simp only [stripS, hsv, hst, hse], ?_⟩
      rw [List.cons_append, List.append_assoc, List.append_assoc]
      refine Ev.step (fun g => st_if k1 x1) (Ev.bind (k := fun g v r => andThen (blockF g (d + 1) r) fun b r2 => if seeB kElse r2 then andThen (blockF g (d + 1) r2.tail) fun e r3 => okP (St.cond t1.at_ v b e) r3 else okP (St.cond t1.at_ v b []) r2) hv (Ev.bind (k := fun g b r2 => if seeB kElse r2 then andThen (blockF g (d + 1) r2.tail) fun e r3 => okP (St.cond t1.at_ v' b e) r3 else okP (St.cond t1.at_ v' b []) r2) ht ?_))
      rw [List.cons_append, see_yes (s := kElse) x6 (by omega)]
      exact Ev.bind (k := fun g e r3 => okP (St.cond t1.at_ v' t' e) r3) he Ev.ok
  | .loop a v t => by
    intro d T R hf hT hn
    simp only [FitS] at hf
    simp only [keysS] at hT
    obtain ⟨t1, T1, rfl, k1, x1, hT⟩ := split_cons hT
    simp only at k1 x1
    obtain ⟨T2, T3, rfl, h2, hT⟩ := split_app hT
    obtain ⟨v', hsv, hv⟩ := (back v).alone (R := T3 ++ R) hf.1 h2
    obtain ⟨t', hst, ht⟩ := block_read (backSs t) (R := R) hf.2.1 hf.2.2 hT
    refine ⟨.loop t1.at_ v' t', by simp only [stripS, hsv, hst], ?_⟩
    rw [List.cons_append, List.append_assoc]
    exact Ev.step (fun g => st_while k1 x1) (Ev.bind (k := fun g v r => andThen (blockF g (d + 1) r) fun b r2 => okP (St.loop t1.at_ v b) r2) hv (Ev.bind (k := fun g b r2 => okP (St.loop t1.at_ v' b) r2) ht Ev.ok))
  | .ret a v => by
    intro d T R hf hT hn
    simp only [FitS] at hf
    simp only [keysS] at hT
    obtain ⟨t1, T1, rfl, k1, x1, hT⟩ := split_cons hT
    simp only at k1 x1
    obtain ⟨v', hs, hv⟩ := semi_end (R := R) hf hT (St.ret t1.at_)
    refine ⟨.ret t1.at_ v', by simp only [stripS, hs], ?_⟩
    rw [List.cons_append]
    exact Ev.step (fun g => st_ret k1 x1) hv
  | .print a v => by
    intro d T R hf hT hn
    simp only [FitS] at hf
    simp only [keysS] at hT
    obtain ⟨t1, T1, rfl, k1, x1, hT⟩ := split_cons hT
    simp only at k1 x1
    obtain ⟨v', hs, hv⟩ := semi_end (R := R) hf hT (St.print t1.at_)
    refine ⟨.print t1.at_ v', by simp only [stripS, hs], ?_⟩
    rw [List.cons_append]
    exact Ev.step (fun g => st_print k1 x1) hv
  | .call a v => by
    intro d T R hf hT hn
    simp only [FitS] at hf
    simp only [keysS] at hT
    obtain ⟨⟨a2, f, l, rfl⟩, h2⟩ := hf
    simp only [Fit] at h2
    simp only [keysE] at hT
    obtain ⟨T1, T2, rfl, h4, h5⟩ := split_app hT
    obtain ⟨t6, rfl, k6, x6⟩ := split_one h5
    obtain ⟨t1, T3, rfl, k1, x1, h7⟩ := split_cons h4
    simp only at k1 x1 k6 x6
    obtain ⟨l', hs, hl⟩ := args_read (R := t6 :: R) (backs_ l) h2.2.2 (by omega) h7
    obtain ⟨t8, T8, rfl, k8, x8, _⟩ := split_cons h7
    simp only at k8 x8
    refine ⟨.call t1.at_ (.call t1.at_ f l'), by simp only [stripS, stripE, hs], ?_⟩
    rw [List.append_assoc, List.singleton_append, List.cons_append]
    refine Ev.step (fun g => st_named h2.2.1 x1) (Ev.bind (k := fun g s r => andThen (must [59] r) fun _ r2 => okP s r2) (R := t6 :: R) (Ev.step (fun g => ?_) (Ev.bind (k := fun g l r3 => okP (St.call t1.at_ (.call t1.at_ f l)) r3) hl Ev.ok)) ?_)
    · rw [named_eq h2.2.1 k1 x1, List.cons_append, see_yes (s := [40]) x8 (by omega)]
      rfl
    · rw [must_see x6 (by omega)]
      exact Ev.ok
theorem backSs : (l : List St) → BackSs l
  | [] => by
    intro d T t R acc hf hT ht hk
    rw [show T = [] from List.map_eq_nil_iff.1 hT]
    refine ⟨[], rfl, Ev.pure fun g => ?_⟩
    rw [List.nil_append, stmts_end hk ht, List.append_nil]
    rfl
  | s :: r => by
    intro d T t R acc hf hT ht hk
    simp only [FitSs] at hf
    simp only [keysSs] at hT
    obtain ⟨T1, T2, rfl, h1, h2⟩ := split_app hT
    have hne : NoElse (T2 ++ t :: R) := by
      cases r with
      | nil =>
        rw [show T2 = [] from List.map_eq_nil_iff.1 h2]
        exact see_no ht rfl
      | cons s2 r2 =>
        simp only [FitSs] at hf
        obtain ⟨k, q, h3, _, h4, _⟩ := head_st hf.2.1
        simp only [keysSs] at h2
        rw [h3, List.cons_append] at h2
        obtain ⟨t4, T4, rfl, k4, x4, _⟩ := split_cons h2
        exact see_no x4 (beq_eq_false_iff_ne.2 h4)
    obtain ⟨s', hs, h3⟩ := backS s d T1 (T2 ++ t :: R) hf.1 h1 hne
    obtain ⟨r', hr, h4⟩ := backSs r d T2 t R (acc ++ [s']) hf.2 h2 ht hk
    refine ⟨s' :: r', by simp only [stripSs, hs, hr], ?_⟩
    rw [List.append_assoc]
    refine Ev.step (fun g => stmts_more ?_) (Ev.bind (k := fun g s r => stmtsF g d (acc ++ [s]) r) h3 ?_)
    · obtain ⟨k, q, h5, h6, _, _⟩ := head_st hf.1
      rw [h5] at h1
      obtain ⟨t4, T4, rfl, k4, x4, _⟩ := split_cons h1
      exact see_no x4 (beq_eq_false_iff_ne.2 h6)
    · rw [show acc ++ s' :: r' = acc ++ [s'] ++ r' by simp]
      exact h4
end
def keysP (p : List UInt8 × Int) : List (Int × List UInt8) := [(1, p.1), (3, [58]), (1, if p.2 = 2 then kArr else kInt)]
def keysPs : List (List UInt8 × Int) → List (Int × List UInt8)
  | [] => []
  | p :: r => keysP p ++ (match r with | [] => [] | _ :: _ => (3, [44]) :: keysPs r)
def keysF (x : Fn) : List (Int × List UInt8) := (1, kFn) :: (1, x.name) :: (3, [40]) :: (keysPs x.params ++ (3, [41]) :: (3, [123]) :: (keysSs x.body ++ [(3, [125])]))
def keysFs : List Fn → List (Int × List UInt8)
  | [] => []
  | x :: r => keysF x ++ keysFs r
def stripF (x : Fn) : Fn := ⟨x.name, 0, x.params, stripSs x.body⟩
section eqs
variable {g : Nat} {t : Tok} {R : List Tok}
theorem params_end {b : Bool} {l : List (List UInt8 × Int)} (hk : t.kind = 3) (hx : t.text = [41]) : paramsF (g + 1) b l (t :: R) = okP l R := by
  simp only [paramsF]
  rw [see_yes hx (by omega)]
  rfl
end eqs
/-- A parameter is read. -/
theorem param_read {p : List UInt8 × Int} (hn : NameOk p.1) (ht : p.2 = 1 ∨ p.2 = 2) {T R : List Tok} (hT : T.map key = keysP p) (g : Nat) (l : List (List UInt8 × Int)) :
    (andThen (nameP (T ++ R)) fun n r2 => andThen (must [58] r2) fun _ r3 => if seeB kArr r3 then paramsF g false (l ++ [(n, 2)]) r3.tail else andThen (must kInt r3) fun _ r4 => paramsF g false (l ++ [(n, 1)]) r4) = paramsF g false (l ++ [p]) R := by
  unfold keysP at hT
  obtain ⟨t1, T1, rfl, k1, x1, hT⟩ := split_cons hT
  obtain ⟨t2, T2, rfl, k2, x2, hT⟩ := split_cons hT
  obtain ⟨t3, rfl, k3, x3⟩ := split_one hT
  simp only at k1 x1 k2 x2 k3 x3
  obtain ⟨n, ty⟩ := p
  simp only at hn ht x1 x3
  rw [List.cons_append, List.cons_append, List.singleton_append, name_take hn x1 k1]
  simp only [andThen.eq_1]
  rw [must_see x2 (by omega)]
  simp only [andThen.eq_1]
  rcases ht with rfl | rfl
  · rw [if_neg (by omega)] at x3
    rw [see_no (m := kArr) x3 rfl, must_see x3 (by omega)]
    rfl
  · rw [if_pos rfl] at x3
    rw [see_yes (s := kArr) x3 (by omega)]
    rfl
theorem params_read : (ps : List (List UInt8 × Int)) → (b : Bool) → (acc : List (List UInt8 × Int)) → (T : List Tok) → (t : Tok) → (R : List Tok) → (∀ p ∈ ps, NameOk p.1 ∧ (p.2 = 1 ∨ p.2 = 2)) → T.map key = (match ps with | [] => [] | _ :: _ => (if b then [] else [(3, [44])]) ++ keysPs ps) → t.text = [41] → t.kind = 3 → Ev (fun g => paramsF g b acc (T ++ t :: R)) (.ok (acc ++ ps, R))
  | [], b, acc, T, t, R, hp, hT, ht, hk => by
    rw [show T = [] from List.map_eq_nil_iff.1 hT]
    refine Ev.pure fun g => ?_
    rw [List.nil_append, params_end hk ht, List.append_nil]
    rfl
  | p :: r, b, acc, T, t, R, hp, hT, ht, hk => by
    simp only [keysPs] at hT
    obtain ⟨T0, T1, rfl, h0, hT⟩ := split_app hT
    obtain ⟨T2, T3, rfl, h2, h3⟩ := split_app hT
    have ih := params_read r false (acc ++ [p]) T3 t R (fun q hq => hp q (List.mem_cons_of_mem _ hq)) (by cases r <;> exact h3) ht hk
    rw [show acc ++ p :: r = acc ++ [p] ++ r by simp]
    refine Ev.step (fun g => ?_) ih
    obtain ⟨hn, hty⟩ := hp p List.mem_cons_self
    have hpr := param_read hn hty h2 (R := T3 ++ t :: R) g acc
    cases b with
    | true =>
      rw [if_pos rfl] at h0
      rw [show T0 = [] from List.map_eq_nil_iff.1 h0, List.nil_append, List.append_assoc]
      unfold keysP at h2
      obtain ⟨t1, T1, rfl, k1, x1, _⟩ := split_cons h2
      simp only at k1 x1
      have hs : seeB [41] (t1 :: T1 ++ (T3 ++ t :: R)) = false := see_name hn x1 (Or.inl ⟨_, _, rfl, rfl⟩)
      rw [← hpr]
      simp only [paramsF]
      rw [hs]
      rfl
    | false =>
      rw [if_neg (by simp)] at h0
      obtain ⟨t0, rfl, k0, x0⟩ := split_one h0
      simp only at k0 x0
      rw [List.append_assoc, List.singleton_append, List.append_assoc, ← hpr]
      simp only [paramsF]
      rw [see_no (m := [41]) x0 rfl, if_neg (by simp), if_neg (by simp), must_see x0 (by omega)]
      rfl
theorem function_read {x : Fn} (hf : FitF x) {T R : List Tok} (hT : T.map key = keysF x) : ∃ x', stripF x' = stripF x ∧ Ev (fun g => functionF g (T ++ R)) (.ok (x', R)) := by
  unfold keysF at hT
  obtain ⟨t1, T1, rfl, k1, x1, hT⟩ := split_cons hT
  obtain ⟨t2, T2, rfl, k2, x2, hT⟩ := split_cons hT
  obtain ⟨t3, T3, rfl, k3, x3, hT⟩ := split_cons hT
  obtain ⟨T4, T5, rfl, h4, hT⟩ := split_app hT
  obtain ⟨t5, T6, rfl, k5, x5, hT⟩ := split_cons hT
  simp only at k1 x1 k2 x2 k3 x3 k5 x5
  obtain ⟨b', hs, hb⟩ := block_read (backSs x.body) (R := R) (by omega) hf.2.2 hT
  have hp := params_read x.params true [] T4 t5 (T6 ++ R) hf.2.1 (by rw [h4]; cases x.params <;> rfl) x5 k5
  refine ⟨⟨x.name, t1.at_, x.params, b'⟩, by simp only [stripF, hs], ?_⟩
  rw [List.cons_append, List.cons_append, List.cons_append, List.append_assoc, List.cons_append]
  refine Ev.step (G := fun g => andThen (paramsF g true [] (T4 ++ t5 :: (T6 ++ R))) fun ps r4 => andThen (blockF g 0 r4) fun b r5 => okP (Fn.mk x.name t1.at_ ps b) r5) (fun g => ?_) (Ev.bind (k := fun g ps r4 => andThen (blockF g 0 r4) fun b r5 => okP (Fn.mk x.name t1.at_ ps b) r5) hp (Ev.bind (k := fun g b r5 => okP (Fn.mk x.name t1.at_ ([] ++ x.params) b) r5) hb Ev.ok))
  simp only [functionF]
  rw [must_see x1 (by omega)]
  simp only [andThen.eq_1]
  rw [name_take hf.1 x2 k2]
  simp only [andThen.eq_1]
  rw [must_see x3 (by omega)]
  rfl
theorem program_read : (l : List Fn) → (acc : List Fn) → (T : List Tok) → (t : Tok) → (∀ x ∈ l, FitF x) → acc.length + l.length ≤ 12 → T.map key = keysFs l → t.kind = 4 → ∃ l', l'.map stripF = l.map stripF ∧ Ev (fun g => programF g acc (T ++ [t])) (.ok (acc ++ l', [t]))
  | [], acc, T, t, hf, hl, hT, hk => by
    rw [show T = [] from List.map_eq_nil_iff.1 hT]
    refine ⟨[], rfl, Ev.pure fun g => ?_⟩
    simp only [programF]
    rw [if_pos (show headKind ([] ++ [t]) = 4 from hk), List.append_nil]
    rfl
  | x :: r, acc, T, t, hf, hl, hT, hk => by
    simp only [keysFs] at hT
    obtain ⟨T1, T2, rfl, h1, h2⟩ := split_app hT
    obtain ⟨x', hs, hx⟩ := function_read (hf x List.mem_cons_self) (R := T2 ++ [t]) h1
    simp only [List.length_cons] at hl
    obtain ⟨r', hs2, hr⟩ := program_read r (acc ++ [x']) T2 t (fun y hy => hf y (List.mem_cons_of_mem _ hy)) (by simp; omega) h2 hk
    refine ⟨x' :: r', by simp only [List.map_cons, hs, hs2], ?_⟩
    rw [List.append_assoc, show acc ++ x' :: r' = acc ++ [x'] ++ r' by simp]
    refine Ev.step (fun g => ?_) (Ev.bind (k := fun g x r => programF g (acc ++ [x]) r) hx hr)
    unfold keysF at h1
    obtain ⟨t1, T3, rfl, k1, x1, _⟩ := split_cons h1
    simp only at k1
    simp only [programF]
    rw [if_neg (by rw [show headKind (t1 :: T3 ++ (T2 ++ [t])) = 1 from k1]; omega), if_neg (by omega)]
mutual
theorem text_strip : (e : Ex) → textB (stripE e) = textB e ∧ levelB (stripE e) = levelB e ∧ isUn (stripE e) = isUn e
  | .num _ n => ⟨by simp only [stripE, textB], rfl, rfl⟩
  | .var _ s => ⟨by simp only [stripE, textB], rfl, rfl⟩
  | .bin _ op l r => ⟨by simp only [stripE, textB, text_strip l, text_strip r], rfl, rfl⟩
  | .un _ op x => ⟨by simp only [stripE, textB, text_strip x], rfl, rfl⟩
  | .call _ f args => ⟨by simp only [stripE, textB, texts_strip args], rfl, rfl⟩
  | .new _ x => ⟨by simp only [stripE, textB, text_strip x], rfl, rfl⟩
  | .len _ x => ⟨by simp only [stripE, textB, text_strip x], rfl, rfl⟩
  | .item _ x i => ⟨by simp only [stripE, textB, text_strip x, text_strip i], rfl, rfl⟩
  | .input _ => ⟨by simp only [stripE, textB], rfl, rfl⟩
theorem texts_strip : (l : List Ex) → textsB (stripEs l) = textsB l
  | [] => rfl
  | e :: r => by simp only [stripEs, textsB, text_strip e, texts_strip r]
end
theorem stripSs_empty (l : List St) : (stripSs l).isEmpty = l.isEmpty := by cases l <;> rfl
mutual
theorem st_strip (tab : List UInt8) : (s : St) → stB tab (stripS s) = stB tab s
  | .var _ s v => by simp only [stripS, stB, text_strip v]
  | .set _ s v => by simp only [stripS, stB, text_strip v]
  | .put _ s i v => by simp only [stripS, stB, text_strip v, text_strip i]
  | .cond _ v t e => by simp only [stripS, stB, text_strip v, sts_strip _ t, sts_strip _ e, stripSs_empty]
  | .loop _ v t => by simp only [stripS, stB, text_strip v, sts_strip _ t]
  | .ret _ v => by simp only [stripS, stB, text_strip v]
  | .print _ v => by simp only [stripS, stB, text_strip v]
  | .call _ v => by simp only [stripS, stB, text_strip v]
theorem sts_strip (tab : List UInt8) : (l : List St) → stsB tab (stripSs l) = stsB tab l
  | [] => rfl
  | s :: r => by simp only [stripSs, stsB, st_strip tab s, sts_strip tab r]
end
theorem fn_strip (x : Fn) : fnB (stripF x) = fnB x := by simp only [fnB, stripF, sts_strip]
theorem print_strip {l l' : List Fn} (h : l'.map stripF = l.map stripF) : printB l' = printB l := by
  have e : ∀ (m : List Fn), printB m = printB (m.map stripF) := by
    intro m
    unfold printB
    rw [List.map_map]
    congr 1
    apply List.map_congr_left
    intro x _
    exact (fn_strip x).symm
  rw [e l', e l, h]
end Go.Proofs.YtinbahmpifokaaaDoor.TreeP

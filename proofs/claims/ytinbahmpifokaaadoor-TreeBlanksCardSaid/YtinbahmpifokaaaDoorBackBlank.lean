/- With other blanks between its tokens a program is read as it was. No program in sight. No conditions. -/
import Derived.Test.YtinbahmpifokaaaDoorBackSize
namespace Go.Proofs.YtinbahmpifokaaaDoor.TreeP
set_option linter.unusedVariables false
set_option linter.unusedSimpArgs false
def blankW : List (List UInt8) := [[32], [10], [9, 32], [32, 35, 32, 97, 32, 114, 101, 109, 97, 114, 107, 59, 32, 125, 10]]
/-- The same text, but for its blanks. -/
inductive Var : List UInt8 → List UInt8 → Prop
  | nil : Var [] []
  | same {c : UInt8} {t o : List UInt8} : blankB c = false → Var t o → Var (c :: t) (c :: o)
  | blank {c : UInt8} {w t o : List UInt8} : blankB c = true → w ∈ [c] :: blankW → Var t o → Var (c :: t) (w ++ o)
theorem Var.append {t1 o1 t2 o2 : List UInt8} (h1 : Var t1 o1) (h2 : Var t2 o2) : Var (t1 ++ t2) (o1 ++ o2) := by
  induction h1 with
  | nil => exact h2
  | same hb _ ih => exact .same hb ih
  | blank hb hw _ ih =>
    rw [List.append_assoc]
    exact .blank hb hw ih
theorem word_head {a : UInt8} {w : List UInt8} (ha : blankB a = true) (h : w ∈ [a] :: blankW) : ∃ c r, w = c :: r ∧ blankB c = true := by
  simp only [blankW, List.mem_cons, List.not_mem_nil, or_false] at h
  rcases h with rfl | rfl | rfl | rfl | rfl
  · exact ⟨_, _, rfl, ha⟩
  all_goals exact ⟨_, _, rfl, rfl⟩
theorem blank_plain {c : UInt8} (h : blankB c = true) : letterB c = false ∧ digitB c = false := by
  unfold blankB at h
  unfold letterB digitB
  simp only [Bool.or_eq_true, beq_iff_eq] at h
  simp only [Bool.or_eq_false_iff, beq_eq_false_iff_ne, Bool.and_eq_false_iff, decide_eq_false_iff_not]
  omega
theorem var_takeWhile {p : UInt8 → Bool} (hp : ∀ c, blankB c = true → p c = false) {t o : List UInt8} (h : Var t o) : o.takeWhile p = t.takeWhile p := by
  induction h with
  | nil => rfl
  | same hb _ ih =>
    rw [List.takeWhile_cons, List.takeWhile_cons, ih]
  | blank hb hw _ ih =>
    obtain ⟨c, r, rfl, hc⟩ := word_head hb hw
    rw [List.cons_append, List.takeWhile_cons, List.takeWhile_cons, hp _ hb, hp _ hc]
    rfl
theorem var_prefix {t o : List UInt8} (h : Var t o) : (m : List UInt8) → (∀ c ∈ m, blankB c = false) → m.isPrefixOf o = m.isPrefixOf t := by
  induction h with
  | nil => exact fun _ _ => rfl
  | same hb _ ih =>
    intro m hm
    cases m with
    | nil => rfl
    | cons a r =>
      simp only [List.isPrefixOf]
      rw [ih r (fun c hc => hm c (List.mem_cons_of_mem _ hc))]
  | blank hb hw _ ih =>
    intro m hm
    obtain ⟨c, r, rfl, hc⟩ := word_head hb hw
    cases m with
    | nil => rfl
    | cons a r2 =>
      have ha := hm a List.mem_cons_self
      rw [List.cons_append]
      simp only [List.isPrefixOf]
      have h1 : (a == c) = false := by
        rw [beq_eq_false_iff_ne]
        rintro rfl
        rw [ha] at hc
        cases hc
      have h2 : ∀ x : UInt8, blankB x = true → (a == x) = false := by
        intro x hx
        rw [beq_eq_false_iff_ne]
        rintro rfl
        rw [ha] at hx
        cases hx
      rw [h1, h2 _ hb]
      rfl
theorem mark_plain : ∀ m ∈ markList, ∀ c ∈ m, blankB c = false := by decide
theorem var_next {c : UInt8} {t o : List UInt8} (hb : blankB c = false) (h : Var t o) : nextP (c :: o) = nextP (c :: t) := by
  have hv : Var (c :: t) (c :: o) := .same hb h
  have h1 := var_takeWhile (p := fun x => letterB x || digitB x) (fun c hc => by obtain ⟨a, b⟩ := blank_plain hc; simp only [a, b]; rfl) hv
  have h2 := var_takeWhile (p := digitB) (fun c hc => (blank_plain hc).2) hv
  have h3 : markList.find? (fun m => m.isPrefixOf (c :: o)) = markList.find? (fun m => m.isPrefixOf (c :: t)) := by
    have key : ∀ l : List (List UInt8), (∀ m ∈ l, m ∈ markList) → l.find? (fun m => m.isPrefixOf (c :: o)) = l.find? (fun m => m.isPrefixOf (c :: t)) := by
      intro l hl
      induction l with
      | nil => rfl
      | cons a r ih =>
        rw [List.find?_cons, List.find?_cons, ih (fun m hm => hl m (List.mem_cons_of_mem _ hm)), var_prefix hv a (mark_plain a (hl a List.mem_cons_self))]
    exact key markList (fun _ h => h)
  simp only [nextP]
  rw [h1, h2, h3]
theorem take_all (p : UInt8 → Bool) : (l : List UInt8) → (l.take (l.takeWhile p).length).all p = true
  | [] => rfl
  | c :: r => by
    rw [List.takeWhile_cons]
    split
    · rename_i hc
      rw [List.length_cons, List.take_succ_cons, List.all_cons, hc, take_all p r]
      rfl
    · rfl
theorem prefix_take {m l : List UInt8} (h : m.isPrefixOf l = true) : l.take m.length = m := by
  rw [List.isPrefixOf_iff_prefix] at h
  obtain ⟨r, rfl⟩ := h
  exact List.take_left' rfl
/-- A token holds no blank. -/
theorem next_plain (c : UInt8) (t : List UInt8) : ((c :: t).take (nextP (c :: t)).2).all (fun x => !blankB x) = true := by
  have wk : ∀ (p : UInt8 → Bool) (l : List UInt8), (∀ c, p c = true → blankB c = false) → l.all p = true → l.all (fun x => !blankB x) = true := by
    intro p l hp h
    rw [List.all_eq_true] at h ⊢
    intro x hx
    rw [hp x (h x hx)]
    rfl
  have hnb : ∀ c, (letterB c || digitB c) = true → blankB c = false := by
    intro c hc
    cases hb : blankB c
    · rfl
    · obtain ⟨a, b⟩ := blank_plain hb
      rw [a, b] at hc
      cases hc
  simp only [nextP]
  split
  · exact wk _ _ hnb (take_all _ _)
  · split
    · exact wk digitB _ (fun c hc => hnb c (by rw [hc, Bool.or_true])) (take_all _ _)
    · split
      · rename_i m hm
        have h1 := List.find?_some (p := fun (m : List UInt8) => m.isPrefixOf (c :: t)) hm
        have h2 := List.mem_of_find?_eq_some hm
        simp only
        rw [prefix_take h1, List.all_eq_true]
        intro x hx
        rw [mark_plain m h2 x hx]
        rfl
      · rfl
theorem var_cut {t o : List UInt8} (h : Var t o) : (k : Nat) → (t.take k).all (fun x => !blankB x) = true → o.take k = t.take k ∧ Var (t.drop k) (o.drop k) := by
  induction h with
  | nil => intro k _; simpa using Var.nil
  | same hb hv ih =>
    intro k hk
    cases k with
    | zero => exact ⟨rfl, .same hb hv⟩
    | succ k =>
      rw [List.take_succ_cons, List.all_cons, Bool.and_eq_true] at hk
      obtain ⟨h1, h2⟩ := ih k hk.2
      rw [List.take_succ_cons, List.take_succ_cons, h1, List.drop_succ_cons, List.drop_succ_cons]
      exact ⟨rfl, h2⟩
  | blank hb hw hv ih =>
    intro k hk
    cases k with
    | zero => exact ⟨rfl, .blank hb hw hv⟩
    | succ k =>
      rw [List.take_succ_cons, List.all_cons, Bool.and_eq_true, hb] at hk
      cases hk.1
theorem word_skip {a : UInt8} {w o : List UInt8} (ha : blankB a = true) (hw : w ∈ [a] :: blankW) (n : Nat) {x : Except (Int × Int) (List Tok)} (p : Nat) (h : ∃ f, lexF f o (p + w.length) n = some x) : ∃ f, lexF f (w ++ o) p n = some x := by
  obtain ⟨f, h⟩ := h
  simp only [blankW, List.mem_cons, List.not_mem_nil, or_false] at hw
  rcases hw with rfl | rfl | rfl | rfl | rfl
  · refine ⟨f + 1, ?_⟩
    rw [List.singleton_append]
    simp only [lexF]
    rw [if_pos ha]
    exact h
  · exact ⟨f + 1, h⟩
  · exact ⟨f + 1, h⟩
  · exact ⟨f + 2, h⟩
  · exact ⟨f + 3, h⟩
theorem var_lex : (f : Nat) → (t o : List UInt8) → (p n : Nat) → (T : List Tok) → Var t o → lexG f t p n = some (.ok T) → ∀ p', ∃ T', T'.map key = T.map key ∧ ∃ f', lexF f' o p' n = some (.ok T')
  | 0, t, o, p, n, T, hv, h, p' => by simp [lexG] at h
  | f + 1, t, o, p, n, T, hv, h, p' => by
    cases hv with
    | nil =>
      simp only [lexG, Option.some.injEq, Except.ok.injEq] at h
      subst h
      exact ⟨[⟨4, [], p'⟩], rfl, 1, rfl⟩
    | @blank c w t o hb hw hv =>
      simp only [lexG] at h
      rw [if_pos hb] at h
      obtain ⟨T', h1, h2⟩ := var_lex f t o _ n T hv h (p' + w.length)
      exact ⟨T', h1, word_skip hb hw n p' h2⟩
    | @same c t o hb hv =>
      simp only [lexG] at h
      rw [hb, if_neg (by simp)] at h
      split at h
      · cases h
      · rename_i h35
        split at h
        · cases h
        · rename_i h0
          split at h
          · cases h
          · rename_i h15
            split at h
            · rename_i T1 hT1
              simp only [Option.some.injEq, Except.ok.injEq] at h
              subst h
              obtain ⟨e1, e2⟩ := var_cut (.same hb hv) _ (next_plain c t)
              obtain ⟨T', h1, f', h2⟩ := var_lex f _ _ _ _ T1 e2 hT1 (p' + (nextP (c :: t)).2)
              refine ⟨⟨(nextP (c :: t)).1, (c :: t).take (nextP (c :: t)).2, p'⟩ :: T', by simp only [List.map_cons, key, h1], f' + 1, ?_⟩
              simp only [lexF]
              rw [hb, if_neg (by simp), if_neg h35, var_next hb hv, if_neg h0, if_neg h15, h2, e1]
            · rename_i hx
              exact absurd h (hx T)
/-- What is written of a program, with other blanks, is read as it. -/
theorem Prog.blanks {l : List Fn} (h : Prog l) {o : List UInt8} (hv : Var (printB l) o) : ∃ l', l'.map stripF = l.map stripF ∧ ReadTo o (.ok l') := by
  obtain ⟨T, p, h1, f, h2⟩ := lexed h.fit (by rw [keysFs_cnt]; exact h.cnt)
  obtain ⟨T', h3, f', h4⟩ := var_lex f _ _ _ _ _ hv h2 0
  rw [List.map_append] at h3
  obtain ⟨T1, T2, rfl, h5, h6⟩ := split_app h3
  obtain ⟨t, rfl, k, x⟩ := split_one h6
  rw [h1] at h5
  obtain ⟨l', h7, f2, h8⟩ := program_read l [] T1 t h.fit (by have := h.few; simpa using this) h5 k
  exact ⟨l', h7, Or.inr ⟨f', f2, _, _, h4, h8 f2 (Nat.le_refl _), rfl⟩⟩
/-- The number that is picked. -/
def pkn (a n : Int) : Int := a % 18446744073709551616 % n
theorem pkn_in (a n : Int) (h : 1 ≤ n) : 0 ≤ pkn a n ∧ pkn a n < n := by
  unfold pkn
  exact ⟨Int.emod_nonneg _ (by omega), Int.emod_lt_of_pos _ (by omega)⟩
/-- Which blank is laid for the one of this number. -/
def swN (l : List Int) (n : Nat) : Nat := (pkn (l.getD (n % l.length) 0) 4).toNat
def sw (l : List Int) (n : Nat) : List UInt8 := blankW.getD (swN l n) []
def bst (l : List Int) (st : List UInt8 × Nat) (c : UInt8) : List UInt8 × Nat := if c.toNat = 32 ∨ c.toNat = 10 then (st.1 ++ sw l st.2, st.2 + 1) else (st.1 ++ [c], st.2)
/-- The text that is made. -/
def bgo (l : List Int) (t : List UInt8) : List UInt8 × Nat := t.foldl (bst l) ([], 0)
theorem swN_lt (l : List Int) (n : Nat) : swN l n < 4 := by
  have := pkn_in (l.getD (n % l.length) 0) 4 (by omega)
  unfold swN
  omega
theorem sw_mem (l : List Int) (n : Nat) : sw l n ∈ blankW := by
  have h := swN_lt l n
  unfold sw
  obtain h | h | h | h : swN l n = 0 ∨ swN l n = 1 ∨ swN l n = 2 ∨ swN l n = 3 := by omega
  all_goals rw [h]; decide
theorem bgo_succ (l : List Int) {t : List UInt8} {i : Nat} {c : UInt8} (h : t[i]? = some c) : bgo l (t.take (i + 1)) = bst l (bgo l (t.take i)) c := by
  unfold bgo
  rw [List.take_add_one, h, List.foldl_append]
  rfl
theorem bgo_var (l : List Int) : (t : List UInt8) → (o : List UInt8) → (n : Nat) → ∃ o', (t.foldl (bst l) (o, n)).1 = o ++ o' ∧ Var t o' ∧ o'.length ≤ 15 * t.length ∧ (t.foldl (bst l) (o, n)).2 ≤ n + t.length
  | [], o, n => ⟨[], by simp, .nil, by simp, by simp⟩
  | c :: r, o, n => by
    rw [List.foldl_cons]
    have hl : ∀ w ∈ blankW, w.length ≤ 15 := by decide
    by_cases h : c.toNat = 32 ∨ c.toNat = 10
    · have e : bst l (o, n) c = (o ++ sw l n, n + 1) := by unfold bst; rw [if_pos h]
      obtain ⟨o', h1, h2, h3, h4⟩ := bgo_var l r (o ++ sw l n) (n + 1)
      have h5 := hl _ (sw_mem l n)
      rw [e]
      refine ⟨sw l n ++ o', by rw [h1, List.append_assoc], .blank ?_ (List.mem_cons_of_mem _ (sw_mem l n)) h2, by simp only [List.length_append, List.length_cons]; omega, by simp only [List.length_cons]; omega⟩
      unfold blankB
      simp only [Bool.or_eq_true, beq_iff_eq]
      omega
    · have e : bst l (o, n) c = (o ++ [c], n) := by unfold bst; rw [if_neg h]
      obtain ⟨o', h1, h2, h3, h4⟩ := bgo_var l r (o ++ [c]) n
      rw [e]
      refine ⟨[c] ++ o', by rw [h1, List.append_assoc], ?_, by simp only [List.length_append, List.length_cons, List.length_nil]; omega, by simp only [List.length_cons]; omega⟩
      cases hb : blankB c
      · exact .same hb h2
      · exact .blank hb List.mem_cons_self h2
theorem bgo_of (l : List Int) (t : List UInt8) : Var t (bgo l t).1 ∧ (bgo l t).1.length ≤ 15 * t.length ∧ (bgo l t).2 ≤ t.length := by
  obtain ⟨o', h1, h2, h3, h4⟩ := bgo_var l t [] 0
  unfold bgo
  rw [h1, List.nil_append]
  exact ⟨h2, h3, by omega⟩
end Go.Proofs.YtinbahmpifokaaaDoor.TreeP

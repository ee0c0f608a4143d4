/- What is written is lexed as it is spelled. No program in sight. No conditions. What is written is lexed as it is spelled: statements, functions, programs; how long it is. No program in sight. No conditions. -/
import Derived.Test.YtinbahmpifokaaaDoorBackSt
namespace Go.Proofs.YtinbahmpifokaaaDoor.TreeP
set_option linter.unusedVariables false
set_option linter.unusedSimpArgs false
/-- The lexer, where no remark stands. -/
def lexG : Nat → List UInt8 → Nat → Nat → Option (Except (Int × Int) (List Tok))
  | 0, _, _, _ => none
  | f + 1, l, p, n =>
    match l with
    | [] => some (.ok [⟨4, [], p⟩])
    | c :: r =>
      if blankB c then lexG f r (p + 1) n
      else if c.toNat == 35 then none
      else
        let k := nextP l
        if k.2 = 0 then some (.error (3, p))
        else if n = 1500 then some (.error (4, p))
        else match lexG f (l.drop k.2) (p + k.2) (n + 1) with
          | some (.ok t) => some (.ok (⟨k.1, l.take k.2, p⟩ :: t))
          | x => x
theorem lexG_lexF : (f : Nat) → (l : List UInt8) → (p n : Nat) → (T : List Tok) → lexG f l p n = some (.ok T) → lexF f l p n = some (.ok T)
  | 0, l, p, n, T, h => by simp [lexG] at h
  | f + 1, [], p, n, T, h => by simpa only [lexG, lexF] using h
  | f + 1, c :: r, p, n, T, h => by
    simp only [lexG] at h
    simp only [lexF]
    split at h
    · rename_i hb
      rw [if_pos hb]
      exact lexG_lexF f _ _ _ T h
    · rename_i hb
      rw [if_neg hb]
      split at h
      · cases h
      · rename_i h35
        rw [if_neg h35]
        split at h
        · cases h
        · rename_i h0
          rw [if_neg h0]
          split at h
          · cases h
          · rename_i h15
            rw [if_neg h15]
            split at h
            · rename_i T1 hT1
              rw [lexG_lexF f _ _ _ T1 hT1]
              exact h
            · rename_i hx
              exact absurd h (hx T)
def LexE (l : List UInt8) (p n : Nat) (T : List Tok) : Prop := ∃ f, lexG f l p n = some (.ok T)
/-- Ahead of this text, it is lexed so. -/
def Lx (l : List UInt8) (ks : List (Int × List UInt8)) (m : List UInt8) : Prop := ∀ p n, n + ks.length ≤ 1500 → ∃ T, T.map key = ks ∧ ∀ T', LexE m (p + l.length) (n + ks.length) T' → LexE (l ++ m) p n (T ++ T')
theorem Lx.nil (m : List UInt8) : Lx [] [] m := fun p n h => ⟨[], rfl, fun T' hT => hT⟩
theorem Lx.append {l1 l2 : List UInt8} {k1 k2 : List (Int × List UInt8)} {m : List UInt8} (h1 : Lx l1 k1 (l2 ++ m)) (h2 : Lx l2 k2 m) : Lx (l1 ++ l2) (k1 ++ k2) m := by
  intro p n h
  simp only [List.length_append] at h ⊢
  obtain ⟨T1, e1, a1⟩ := h1 p n (by omega)
  obtain ⟨T2, e2, a2⟩ := h2 (p + l1.length) (n + k1.length) (by omega)
  refine ⟨T1 ++ T2, by rw [List.map_append, e1, e2], fun T' hT => ?_⟩
  rw [List.append_assoc, List.append_assoc]
  exact a1 _ (a2 _ (by rwa [Nat.add_assoc, Nat.add_assoc]))
theorem Lx.blank {c : UInt8} {m : List UInt8} (h : blankB c = true) : Lx [c] [] m := by
  intro p n hn
  refine ⟨[], rfl, fun T' hT => ?_⟩
  obtain ⟨f, hf⟩ := hT
  refine ⟨f + 1, ?_⟩
  rw [List.singleton_append]
  simp only [lexG]
  rw [if_pos h]
  exact hf
theorem Lx.blanks : {l : List UInt8} → {m : List UInt8} → l.all blankB = true → Lx l [] m
  | [], m, _ => Lx.nil m
  | c :: r, m, h => by
    simp only [List.all_cons, Bool.and_eq_true] at h
    exact Lx.append (l1 := [c]) (k1 := []) (k2 := []) (Lx.blank h.1) (Lx.blanks h.2)
/-- What stands next makes one token. -/
theorem Lx.tok {k : Int} {s m : List UInt8} (hs : ∃ c r, s = c :: r ∧ blankB c = false ∧ (c.toNat == 35) = false) (h : nextP (s ++ m) = (k, s.length)) : Lx s [(k, s)] m := by
  obtain ⟨c, r, rfl, hb, h35⟩ := hs
  intro p n hn
  refine ⟨[⟨k, c :: r, p⟩], rfl, fun T' hT => ?_⟩
  obtain ⟨f, hf⟩ := hT
  refine ⟨f + 1, ?_⟩
  rw [List.cons_append] at h ⊢
  simp only [List.length_singleton] at hn hf
  simp only [lexG]
  rw [hb, if_neg (by simp), h35, if_neg (by simp), h]
  simp only [List.length_cons]
  rw [if_neg (by omega), if_neg (by omega)]
  have h1 : (c :: (r ++ m)).drop (r.length + 1) = m := by simp
  have h2 : (c :: (r ++ m)).take (r.length + 1) = c :: r := by simp
  rw [h1, h2]
  simp only [List.length_cons] at hf
  rw [hf]
  rfl
/-- What may follow a word, a number or a bracket. -/
def Follow (m : List UInt8) : Prop := ∀ c r, m = c :: r → letterB c = false ∧ digitB c = false
def NoEq (m : List UInt8) : Prop := ∀ c r, m = c :: r → c ≠ 61
theorem takeWhile_all (p : UInt8 → Bool) : (s : List UInt8) → (m : List UInt8) → s.all p = true → (∀ c r, m = c :: r → p c = false) → (s ++ m).takeWhile p = s
  | [], [], _, _ => rfl
  | [], c :: r, _, h => by rw [List.nil_append, List.takeWhile_cons, h c r rfl]; rfl
  | a :: r, m, hs, h => by
    simp only [List.all_cons, Bool.and_eq_true] at hs
    rw [List.cons_append, List.takeWhile_cons, if_pos hs.1, takeWhile_all p r m hs.2 h]
theorem letter_plain {c : UInt8} (h : letterB c = true) : blankB c = false ∧ (c.toNat == 35) = false := by
  unfold letterB at h
  unfold blankB
  simp only [Bool.or_eq_true, Bool.and_eq_true, decide_eq_true_eq, beq_iff_eq] at h
  simp only [Bool.or_eq_false_iff, beq_eq_false_iff_ne]
  omega
theorem digit_plain {c : UInt8} (h : digitB c = true) : blankB c = false ∧ (c.toNat == 35) = false ∧ letterB c = false := by
  unfold digitB at h
  unfold blankB letterB
  simp only [Bool.and_eq_true, decide_eq_true_eq] at h
  simp only [Bool.or_eq_false_iff, beq_eq_false_iff_ne, Bool.and_eq_false_iff, decide_eq_false_iff_not]
  omega
theorem Lx.word {s m : List UInt8} (h1 : ∃ c r, s = c :: r ∧ letterB c = true) (h2 : s.all (fun x => letterB x || digitB x) = true) (hm : Follow m) : Lx s [(1, s)] m := by
  obtain ⟨c, r, rfl, hc⟩ := h1
  obtain ⟨p1, p2⟩ := letter_plain hc
  refine Lx.tok ⟨c, r, rfl, p1, p2⟩ ?_
  have ht := takeWhile_all (fun x => letterB x || digitB x) (c :: r) m h2 (fun c r h => by obtain ⟨a, b⟩ := hm c r h; rw [a, b]; rfl)
  rw [List.cons_append] at ht ⊢
  simp only [nextP]
  rw [if_pos hc, ht]
theorem Lx.number {s m : List UInt8} (h1 : s ≠ []) (h2 : s.all digitB = true) (hm : Follow m) : Lx s [(2, s)] m := by
  cases s with
  | nil => exact absurd rfl h1
  | cons c r =>
    have hc : digitB c = true := by simp only [List.all_cons, Bool.and_eq_true] at h2; exact h2.1
    obtain ⟨p1, p2, p3⟩ := digit_plain hc
    refine Lx.tok ⟨c, r, rfl, p1, p2⟩ ?_
    have ht := takeWhile_all digitB (c :: r) m h2 (fun c r h => (hm c r h).2)
    rw [List.cons_append] at ht ⊢
    simp only [nextP]
    rw [p3, if_neg (by simp), if_pos hc, ht]
theorem find_mark {s m : List UInt8} (h : s ∈ markList) (hm : NoEq m) : markList.find? (fun k => k.isPrefixOf (s ++ m)) = some s := by
  cases m with
  | nil =>
    have : ∀ s ∈ markList, markList.find? (fun k => k.isPrefixOf (s ++ [])) = some s := by decide
    exact this s h
  | cons c r =>
    have hc : (61 == c) = false := by
      have := hm c r rfl
      rw [beq_eq_false_iff_ne]
      exact fun h => this h.symm
    simp only [markList, List.mem_cons, List.not_mem_nil, or_false] at h
    rcases h with rfl | rfl | rfl | rfl | rfl | rfl | rfl | rfl | rfl | rfl | rfl | rfl | rfl | rfl | rfl | rfl | rfl | rfl | rfl | rfl | rfl | rfl | rfl | rfl <;> simp [markList, List.find?, List.isPrefixOf, hc]
theorem Lx.mark {s m : List UInt8} (h : s ∈ markList) (hm : NoEq m) : Lx s [(3, s)] m := by
  have key : ∀ s ∈ markList, (match s with | [] => false | c :: _ => !blankB c && !(c.toNat == 35) && !letterB c && !digitB c) = true := by decide
  have hk := key s h
  have hf := find_mark h hm
  cases s with
  | nil => simp at hk
  | cons c r =>
    simp only [Bool.and_eq_true, Bool.not_eq_true'] at hk
    refine Lx.tok ⟨c, r, rfl, hk.1.1.1, hk.1.1.2⟩ ?_
    rw [List.cons_append] at hf ⊢
    simp only [nextP]
    rw [hk.1.2, hk.2, if_neg (by simp), if_neg (by simp), hf]
def After (m : List UInt8) : Prop := Follow m ∧ NoEq m
theorem follow_cons {c : UInt8} {r : List UInt8} (h : letterB c = false ∧ digitB c = false) : Follow (c :: r) := by
  rintro _ _ ⟨⟩
  exact h
theorem noeq_cons {c : UInt8} {r : List UInt8} (h : c ≠ 61) : NoEq (c :: r) := by
  rintro _ _ ⟨⟩
  exact h
theorem after_cons {c : UInt8} {r : List UInt8} (h : letterB c = false ∧ digitB c = false) (h2 : c ≠ 61) : After (c :: r) := ⟨follow_cons h, noeq_cons h2⟩
theorem after_nil : After [] := ⟨fun _ _ h => (nomatch h), fun _ _ h => (nomatch h)⟩
section parts
variable {l m : List UInt8} {ks : List (Int × List UInt8)}
theorem Lx.bl {c : UInt8} (h : blankB c = true) (hl : Lx l ks m) : Lx (c :: l) ks m := Lx.append (l1 := [c]) (k1 := []) (Lx.blank h) hl
theorem Lx.mk_ {s : List UInt8} (h : s ∈ markList) (h2 : NoEq (l ++ m)) (hl : Lx l ks m) : Lx (s ++ l) ((3, s) :: ks) m := Lx.append (k1 := [(3, s)]) (Lx.mark h h2) hl
theorem Lx.wo {s : List UInt8} (h1 : ∃ c r, s = c :: r ∧ letterB c = true) (h2 : s.all (fun x => letterB x || digitB x) = true) (h : Follow (l ++ m)) (hl : Lx l ks m) : Lx (s ++ l) ((1, s) :: ks) m := Lx.append (k1 := [(1, s)]) (Lx.word h1 h2 h) hl
theorem Lx.na {s : List UInt8} (hs : NameOk s) (h : Follow (l ++ m)) (hl : Lx l ks m) : Lx (s ++ l) ((1, s) :: ks) m := Lx.wo hs.1 hs.2.1 h hl
theorem Lx.ke {s : List UInt8} (hs : s ∈ keptList) (h : Follow (l ++ m)) (hl : Lx l ks m) : Lx (s ++ l) ((1, s) :: ks) m := by
  have key : ∀ s ∈ keptList, (match s with | [] => false | c :: _ => letterB c) = true ∧ s.all (fun x => letterB x || digitB x) = true := by decide
  obtain ⟨h1, h2⟩ := key s hs
  refine Lx.wo ?_ h2 h hl
  cases s with
  | nil => simp at h1
  | cons c r => exact ⟨c, r, rfl, h1⟩
end parts
theorem mark_head {op : List UInt8} (h : ∃ k, k < 6 ∧ op ∈ levelList.getD k []) : op ∈ markList := by
  obtain ⟨k, hk, h⟩ := h
  obtain rfl | rfl | rfl | rfl | rfl | rfl : k = 0 ∨ k = 1 ∨ k = 2 ∨ k = 3 ∨ k = 4 ∨ k = 5 := by omega
  all_goals
    simp only [levelList, List.getD_cons_zero, List.getD_cons_succ, List.mem_cons, List.not_mem_nil, or_false] at h
    rcases h with rfl | rfl | rfl | rfl <;> decide
theorem name_head {s : List UInt8} (h : NameOk s) : ∃ c r, s = c :: r ∧ c ≠ 61 := by
  obtain ⟨⟨c, r, rfl, hc⟩, _⟩ := h
  refine ⟨c, r, rfl, ?_⟩
  rintro rfl
  cases hc
/-- How an expression's text begins. -/
theorem text_head : (e : Ex) → (d : Nat) → Fit e d → ∃ c r, textB e = c :: r ∧ c ≠ 61
  | .num _ n, d, h => by
    simp only [Fit] at h
    obtain ⟨h1, h2, h3⟩ := itoa_digits h.2.1
    simp only [textB]
    cases hi : Lib.itoa n with
    | nil => exact absurd hi h2
    | cons c r =>
      refine ⟨c, r, rfl, ?_⟩
      rintro rfl
      rw [hi] at h1
      cases h1
  | .var _ s, d, h => by
    simp only [Fit] at h
    simp only [textB]
    exact name_head h.2
  | .bin _ op l r, d, h => by
    simp only [Fit] at h
    simp only [textB, paren]
    have h2 := h.2.1
    split
    · rename_i hc
      rw [if_neg (by omega)] at h2
      obtain ⟨c, q, h3, h4⟩ := text_head l d h2
      rw [h3]
      exact ⟨_, _, by simp only [List.cons_append]; rfl, h4⟩
    · exact ⟨_, _, by simp only [List.cons_append, List.nil_append]; rfl, by decide⟩
  | .un _ op x, d, h => by
    simp only [Fit] at h
    simp only [textB]
    rcases h.2.1 with rfl | rfl <;> exact ⟨_, _, rfl, by decide⟩
  | .call _ f args, d, h => by
    simp only [Fit] at h
    simp only [textB]
    obtain ⟨c, r, h1, h2⟩ := name_head h.2.1
    rw [h1]
    exact ⟨_, _, by simp only [List.cons_append]; rfl, h2⟩
  | .new _ x, d, h => ⟨_, _, by simp only [textB, List.cons_append]; rfl, by decide⟩
  | .len _ x, d, h => ⟨_, _, by simp only [textB, List.cons_append]; rfl, by decide⟩
  | .item _ x i, d, h => by
    simp only [Fit] at h
    simp only [textB, paren]
    have h2 := h.2.1
    split
    · exact ⟨_, _, by simp only [List.cons_append, List.nil_append]; rfl, by decide⟩
    · rename_i hu
      rw [if_neg hu] at h2
      split
      · rename_i hc
        rw [if_neg (by omega)] at h2
        obtain ⟨c, q, h3, h4⟩ := text_head x d h2
        rw [h3]
        exact ⟨_, _, by simp only [List.cons_append]; rfl, h4⟩
      · exact ⟨_, _, by simp only [List.cons_append, List.nil_append]; rfl, by decide⟩
  | .input _, d, h => ⟨_, _, by simp only [textB]; rfl, by decide⟩
theorem text_noeq {e : Ex} {d : Nat} (h : Fit e d) (m : List UInt8) : NoEq (textB e ++ m) := by
  obtain ⟨c, r, h1, h2⟩ := text_head e d h
  rw [h1]
  exact noeq_cons h2
theorem text_noeq2 {e : Ex} {d : Nat} (h : Fit e d) (l m : List UInt8) : NoEq (textB e ++ l ++ m) := by
  rw [List.append_assoc]
  exact text_noeq h _
/-- In brackets. -/
theorem lx_par {e : Ex} {d : Nat} (hf : Fit e d) (h : ∀ m, After m → Lx (textB e) (keysE e) m) {l m : List UInt8} {ks : List (Int × List UInt8)} (hm : NoEq (l ++ m)) (hl : Lx l ks m) : Lx (40 :: (textB e ++ 41 :: l)) (par (keysE e) ++ ks) m := by
  unfold par
  rw [List.cons_append, List.cons_append, List.append_assoc, List.singleton_append]
  refine Lx.mk_ (s := [40]) (by decide) (text_noeq2 hf _ _) (Lx.append (h _ (after_cons ⟨rfl, rfl⟩ (by decide))) (Lx.mk_ (s := [41]) (by decide) hm hl))
/-- Where a level may stand. -/
theorem lx_paren {e : Ex} {d lv : Nat} (hf : if levelB e < lv then d ≤ 12 ∧ Fit e (d + 1) else Fit e d) (h : ∀ m, After m → Lx (textB e) (keysE e) m) {l m : List UInt8} {ks : List (Int × List UInt8)} (hm : After (l ++ m)) (hl : Lx l ks m) : Lx (paren (levelB e) lv (textB e) ++ l) (parK lv e (keysE e) ++ ks) m := by
  unfold paren parK
  by_cases hc : levelB e < lv
  · rw [if_pos hc] at hf ⊢
    rw [if_neg (by omega)]
    simp only [List.append_assoc, List.cons_append, List.nil_append]
    exact lx_par hf.2 h hm.2 hl
  · rw [if_neg hc, if_pos (by omega)]
    exact Lx.append (h _ hm) hl
theorem paren_noeq {e : Ex} {d lv : Nat} (hf : if levelB e < lv then d ≤ 12 ∧ Fit e (d + 1) else Fit e d) (m : List UInt8) : NoEq (paren (levelB e) lv (textB e) ++ m) := by
  unfold paren
  split
  · rw [if_neg (by omega)] at hf
    exact text_noeq hf m
  · simp only [List.append_assoc, List.cons_append, List.nil_append]
    exact noeq_cons (by decide)
theorem tail_after (l : List (List UInt8)) {m : List UInt8} (h : After m) : After (Lib.joinTail [44, 32] l ++ m) := by
  cases l with
  | nil => exact h
  | cons a r => exact after_cons ⟨rfl, rfl⟩ (by decide)
mutual
theorem lx_ex : (e : Ex) → (d : Nat) → Fit e d → (m : List UInt8) → After m → Lx (textB e) (keysE e) m
  | .num _ n, d, h, m, hm => by
    simp only [Fit] at h
    simp only [textB, keysE]
    obtain ⟨h1, h2, h3⟩ := itoa_digits h.2.1
    exact Lx.number h2 h1 hm.1
  | .var _ s, d, h, m, hm => by
    simp only [Fit] at h
    simp only [textB, keysE]
    exact Lx.word h.2.1 h.2.2.1 hm.1
  | .bin _ op l r, d, h, m, hm => by
    simp only [Fit] at h
    simp only [textB, keysE, List.append_assoc, List.cons_append, List.nil_append]
    have hr := lx_paren (l := []) (ks := []) h.2.2 (fun m hm => by
      have h2 := h.2.2
      split at h2
      · exact lx_ex r (d + 1) h2.2 m hm
      · exact lx_ex r d h2 m hm) (by rw [List.nil_append]; exact hm) (Lx.nil m)
    rw [List.append_nil, List.append_nil] at hr
    refine lx_paren h.2.1 (fun m hm => by
      have h2 := h.2.1
      split at h2
      · exact lx_ex l (d + 1) h2.2 m hm
      · exact lx_ex l d h2 m hm) (by rw [List.cons_append]; exact after_cons ⟨rfl, rfl⟩ (by decide)) (Lx.bl rfl (Lx.mk_ (mark_head h.1) (by rw [List.cons_append]; exact noeq_cons (by decide)) (Lx.bl rfl hr)))
  | .un _ op x, d, h, m, hm => by
    simp only [Fit] at h
    simp only [textB, keysE]
    have hr := lx_paren (l := []) (ks := []) (lv := 6) h.2.2 (fun m hm => by
      have h2 := h.2.2
      split at h2
      · exact lx_ex x (d + 2) h2.2 m hm
      · exact lx_ex x (d + 1) h2 m hm) (by rw [List.nil_append]; exact hm) (Lx.nil m)
    rw [List.append_nil, List.append_nil] at hr
    exact Lx.mk_ (by rcases h.2.1 with rfl | rfl <;> decide) (paren_noeq h.2.2 m) hr
  | .call _ f args, d, h, m, hm => by
    simp only [Fit] at h
    simp only [textB, keysE, List.append_assoc, List.cons_append, List.nil_append]
    refine Lx.na h.2.1 (by rw [List.cons_append]; exact follow_cons ⟨rfl, rfl⟩) ?_
    cases args with
    | nil =>
      simp only [textsB, keysA, Lib.join_nil, List.nil_append]
      exact Lx.mk_ (s := [40]) (by decide) (by rw [List.singleton_append]; exact noeq_cons (by decide)) (Lx.mark (s := [41]) (by decide) hm.2)
    | cons e r =>
      simp only [Fits] at h
      simp only [textsB, Lib.join_cons, List.append_assoc]
      rw [keysA_cons, List.append_assoc]
      refine Lx.mk_ (s := [40]) (by decide) (text_noeq2 h.2.2.1 _ _) (Lx.append (lx_ex e (d + 1) h.2.2.1 _ (by rw [List.append_assoc]; exact tail_after _ (after_cons ⟨rfl, rfl⟩ (by decide)))) (Lx.append (lx_tail r (d + 1) h.2.2.2 _ (after_cons ⟨rfl, rfl⟩ (by decide))) (Lx.mark (s := [41]) (by decide) hm.2)))
  | .new _ x, d, h, m, hm => by
    simp only [Fit] at h
    simp only [textB, keysE, List.append_assoc, List.cons_append, List.nil_append]
    have hp := lx_par h.2 (fun m hm => lx_ex x (d + 1) h.2 m hm) (l := []) (m := m) (by rw [List.nil_append]; exact hm.2) (Lx.nil m)
    rw [List.append_nil] at hp
    exact Lx.ke (s := kNew) (by decide) (by rw [List.cons_append]; exact follow_cons ⟨rfl, rfl⟩) hp
  | .len _ x, d, h, m, hm => by
    simp only [Fit] at h
    simp only [textB, keysE, List.append_assoc, List.cons_append, List.nil_append]
    have hp := lx_par h.2 (fun m hm => lx_ex x (d + 1) h.2 m hm) (l := []) (m := m) (by rw [List.nil_append]; exact hm.2) (Lx.nil m)
    rw [List.append_nil] at hp
    exact Lx.ke (s := kLen) (by decide) (by rw [List.cons_append]; exact follow_cons ⟨rfl, rfl⟩) hp
  | .item _ x i, d, h, m, hm => by
    simp only [Fit] at h
    simp only [textB, keysE, List.append_assoc, List.cons_append, List.nil_append]
    have hi : Lx (91 :: (textB i ++ [93])) ((3, [91]) :: (keysE i ++ [(3, [93])])) m := Lx.mk_ (s := [91]) (by decide) (text_noeq2 h.2.2 _ _) (Lx.append (lx_ex i (d + 1) h.2.2 _ (after_cons ⟨rfl, rfl⟩ (by decide))) (Lx.mark (s := [93]) (by decide) hm.2))
    have h2 := h.2.1
    by_cases hu : isUn x = true
    · rw [if_pos hu] at h2
      rw [if_pos hu, if_pos hu]
      simp only [List.append_assoc, List.cons_append, List.nil_append]
      exact lx_par h2 (fun m hm => lx_ex x (d + 1) h2 m hm) (by rw [List.cons_append]; exact noeq_cons (by decide)) hi
    · rw [if_neg hu] at h2
      rw [if_neg hu, if_neg hu]
      exact lx_paren h2 (fun m hm => by
        split at h2
        · exact lx_ex x (d + 1) h2.2 m hm
        · exact lx_ex x d h2 m hm) (by rw [List.cons_append]; exact after_cons ⟨rfl, rfl⟩ (by decide)) hi
  | .input _, d, h, m, hm => by
    simp only [textB, keysE, par]
    exact Lx.ke (s := kInput) (l := [40, 41]) (by decide) (follow_cons ⟨rfl, rfl⟩) (Lx.mk_ (s := [40]) (l := [41]) (by decide) (noeq_cons (by decide)) (Lx.mark (s := [41]) (by decide) hm.2))
theorem lx_tail : (l : List Ex) → (d : Nat) → Fits l d → (m : List UInt8) → After m → Lx (Lib.joinTail [44, 32] (textsB l)) (keysB l) m
  | [], d, h, m, hm => Lx.nil m
  | e :: r, d, h, m, hm => by
    simp only [Fits] at h
    have ht : Lib.joinTail [44, 32] (textsB (e :: r)) = 44 :: 32 :: (textB e ++ Lib.joinTail [44, 32] (textsB r)) := by
      simp only [textsB, Lib.joinTail, List.map_cons, List.flatten_cons, List.cons_append, List.nil_append]
    rw [ht]
    show Lx _ ((3, [44]) :: keysA (e :: r)) m
    rw [keysA_cons]
    exact Lx.mk_ (s := [44]) (by decide) (by rw [List.cons_append]; exact noeq_cons (by decide)) (Lx.bl rfl (Lx.append (lx_ex e d h.1 _ (tail_after _ hm)) (lx_tail r d h.2 m hm)))
end
end Go.Proofs.YtinbahmpifokaaaDoor.TreeP
namespace Go.Proofs.YtinbahmpifokaaaDoor.TreeP
set_option linter.unusedVariables false
set_option linter.unusedSimpArgs false
theorem lx_end {v : Ex} {d : Nat} (h : Fit v d) (m : List UInt8) : Lx (textB v ++ [59, 10]) (keysE v ++ [(3, [59])]) m :=
  Lx.append (lx_ex v d h _ (after_cons ⟨rfl, rfl⟩ (by decide))) (Lx.mk_ (s := [59]) (l := [10]) (by decide) (noeq_cons (by decide)) (Lx.blank rfl))
theorem blank_tab {tab : List UInt8} (h : tab.all blankB = true) : (tab ++ sp).all blankB = true := by
  rw [List.all_append, h]
  rfl
/-- A block. -/
theorem lx_block {tab x l m : List UInt8} {ks kx : List (Int × List UInt8)} (ht : tab.all blankB = true) (hx : ∀ m, Lx x kx m) (hm : NoEq (l ++ m)) (hl : Lx l ks m) : Lx (123 :: 10 :: (x ++ (tab ++ 125 :: l))) ((3, [123]) :: (kx ++ (3, [125]) :: ks)) m :=
  Lx.mk_ (s := [123]) (l := 10 :: (x ++ (tab ++ 125 :: l))) (by decide) (noeq_cons (by decide)) (Lx.bl rfl (Lx.append (hx _) (Lx.append (k1 := []) (Lx.blanks ht) (Lx.mk_ (s := [125]) (by decide) hm hl))))
theorem fol {c : UInt8} {l m : List UInt8} (h : letterB c = false ∧ digitB c = false) : Follow (c :: l ++ m) := follow_cons h
theorem neq {c : UInt8} {l m : List UInt8} (h : c ≠ 61) : NoEq (c :: l ++ m) := noeq_cons h
mutual
theorem lx_st : (s : St) → (d : Nat) → FitS s d → (tab : List UInt8) → tab.all blankB = true → (m : List UInt8) → Lx (stB tab s) (keysS s) m
  | .var _ s v, d, h, tab, ht, m => by
    simp only [FitS] at h
    simp only [stB, keysS, isSp, semi, List.append_assoc, List.cons_append, List.nil_append]
    exact Lx.append (k1 := []) (Lx.blanks ht) (Lx.ke (s := kVar) (l := 32 :: (s ++ 32 :: 61 :: 32 :: (textB v ++ [59, 10]))) (by decide) (fol ⟨rfl, rfl⟩) (Lx.bl rfl (Lx.na h.1 (fol ⟨rfl, rfl⟩) (Lx.bl rfl (Lx.mk_ (s := [61]) (l := 32 :: (textB v ++ [59, 10])) (by decide) (neq (by decide)) (Lx.bl rfl (lx_end h.2 m)))))))
  | .set _ s v, d, h, tab, ht, m => by
    simp only [FitS] at h
    simp only [stB, keysS, isSp, semi, List.append_assoc, List.cons_append, List.nil_append]
    exact Lx.append (k1 := []) (Lx.blanks ht) (Lx.na h.1 (fol ⟨rfl, rfl⟩) (Lx.bl rfl (Lx.mk_ (s := [61]) (l := 32 :: (textB v ++ [59, 10])) (by decide) (neq (by decide)) (Lx.bl rfl (lx_end h.2 m)))))
  | .put _ s i v, d, h, tab, ht, m => by
    simp only [FitS] at h
    simp only [stB, keysS, isSp, semi, List.append_assoc, List.cons_append, List.nil_append]
    exact Lx.append (k1 := []) (Lx.blanks ht) (Lx.na h.1 (fol ⟨rfl, rfl⟩) (Lx.mk_ (s := [91]) (l := textB i ++ 93 :: 32 :: 61 :: 32 :: (textB v ++ [59, 10])) (by decide) (text_noeq2 h.2.1 _ _) (Lx.append (lx_ex i 1 h.2.1 _ (after_cons ⟨rfl, rfl⟩ (by decide))) (Lx.mk_ (s := [93]) (l := 32 :: 61 :: 32 :: (textB v ++ [59, 10])) (by decide) (neq (by decide)) (Lx.bl rfl (Lx.mk_ (s := [61]) (l := 32 :: (textB v ++ [59, 10])) (by decide) (neq (by decide)) (Lx.bl rfl (lx_end h.2.2 m))))))))
  | .cond _ v t e, d, h, tab, ht, m => by
    simp only [FitS] at h
    simp only [stB, keysS, List.append_assoc, List.cons_append, List.nil_append]
    refine Lx.append (k1 := []) (Lx.blanks ht) (Lx.ke (s := kIf) (by decide) (fol (c := 32) ⟨rfl, rfl⟩) (Lx.bl rfl (lx_par h.1 (fun m hm => lx_ex v 1 h.1 m hm) (neq (c := 32) (by decide)) (Lx.bl rfl ?_))))
    by_cases he : e.isEmpty = true
    · rw [if_pos he, if_pos he, List.nil_append]
      exact lx_block ht (fun m => lx_sts t (d + 1) h.2.2.1 _ (blank_tab ht) m) (neq (by decide)) (Lx.blank rfl)
    · rw [if_neg he, if_neg he]
      simp only [List.append_assoc, List.cons_append, List.nil_append]
      exact lx_block ht (fun m => lx_sts t (d + 1) h.2.2.1 _ (blank_tab ht) m) (neq (by decide)) (Lx.bl rfl (Lx.ke (s := kElse) (by decide) (fol (c := 32) ⟨rfl, rfl⟩) (Lx.bl rfl (lx_block ht (fun m => lx_sts e (d + 1) h.2.2.2 _ (blank_tab ht) m) (neq (by decide)) (Lx.blank rfl)))))
  | .loop _ v t, d, h, tab, ht, m => by
    simp only [FitS] at h
    simp only [stB, keysS, List.append_assoc, List.cons_append, List.nil_append]
    exact Lx.append (k1 := []) (Lx.blanks ht) (Lx.ke (s := kWhile) (by decide) (fol (c := 32) ⟨rfl, rfl⟩) (Lx.bl rfl (lx_par h.1 (fun m hm => lx_ex v 1 h.1 m hm) (neq (c := 32) (by decide)) (Lx.bl rfl (lx_block ht (fun m => lx_sts t (d + 1) h.2.2 _ (blank_tab ht) m) (neq (by decide)) (Lx.blank rfl))))))
  | .ret _ v, d, h, tab, ht, m => by
    simp only [FitS] at h
    simp only [stB, keysS, semi, List.append_assoc, List.cons_append, List.nil_append]
    exact Lx.append (k1 := []) (Lx.blanks ht) (Lx.ke (s := kReturn) (l := 32 :: (textB v ++ [59, 10])) (by decide) (fol ⟨rfl, rfl⟩) (Lx.bl rfl (lx_end h m)))
  | .print _ v, d, h, tab, ht, m => by
    simp only [FitS] at h
    simp only [stB, keysS, semi, List.append_assoc, List.cons_append, List.nil_append]
    exact Lx.append (k1 := []) (Lx.blanks ht) (Lx.ke (s := kPrint) (l := 32 :: (textB v ++ [59, 10])) (by decide) (fol ⟨rfl, rfl⟩) (Lx.bl rfl (lx_end h m)))
  | .call _ v, d, h, tab, ht, m => by
    simp only [FitS] at h
    simp only [stB, keysS, semi]
    exact Lx.append (k1 := []) (Lx.blanks ht) (lx_end h.2 m)
theorem lx_sts : (l : List St) → (d : Nat) → FitSs l d → (tab : List UInt8) → tab.all blankB = true → (m : List UInt8) → Lx (stsB tab l) (keysSs l) m
  | [], d, h, tab, ht, m => Lx.nil m
  | s :: r, d, h, tab, ht, m => by
    simp only [FitSs] at h
    simp only [stsB, keysSs]
    exact Lx.append (lx_st s d h.1 tab ht _) (lx_sts r d h.2 tab ht m)
end
theorem lx_param {p : List UInt8 × Int} (hn : NameOk p.1) (ht : p.2 = 1 ∨ p.2 = 2) {m : List UInt8} (hm : Follow m) : Lx (paramB p) (keysP p) m := by
  obtain ⟨n, t⟩ := p
  simp only at hn ht
  unfold paramB keysP tyB
  simp only [List.append_assoc, List.cons_append, List.nil_append]
  rcases ht with rfl | rfl
  · exact Lx.na hn (fol ⟨rfl, rfl⟩) (Lx.mk_ (s := [58]) (l := [32, 105, 110, 116]) (by decide) (neq (by decide)) (Lx.bl rfl (Lx.word (s := kInt) ⟨_, _, rfl, rfl⟩ rfl hm)))
  · exact Lx.na hn (fol ⟨rfl, rfl⟩) (Lx.mk_ (s := [58]) (l := [32, 97, 114, 114]) (by decide) (neq (by decide)) (Lx.bl rfl (Lx.word (s := kArr) ⟨_, _, rfl, rfl⟩ rfl hm)))
def keysPB (l : List (List UInt8 × Int)) : List (Int × List UInt8) := match l with | [] => [] | _ :: _ => (3, [44]) :: keysPs l
theorem keysPs_cons (p : List UInt8 × Int) (r : List (List UInt8 × Int)) : keysPs (p :: r) = keysP p ++ keysPB r := by
  simp only [keysPs]
  cases r <;> rfl
theorem lx_ptail : (l : List (List UInt8 × Int)) → (∀ p ∈ l, NameOk p.1 ∧ (p.2 = 1 ∨ p.2 = 2)) → (m : List UInt8) → After m → Lx (Lib.joinTail [44, 32] (l.map paramB)) (keysPB l) m
  | [], h, m, hm => Lx.nil m
  | p :: r, h, m, hm => by
    have ht : Lib.joinTail [44, 32] ((p :: r).map paramB) = 44 :: 32 :: (paramB p ++ Lib.joinTail [44, 32] (r.map paramB)) := by
      simp only [Lib.joinTail, List.map_cons, List.flatten_cons, List.cons_append, List.nil_append]
    rw [ht]
    show Lx _ ((3, [44]) :: keysPs (p :: r)) m
    rw [keysPs_cons]
    obtain ⟨h1, h2⟩ := h p List.mem_cons_self
    exact Lx.mk_ (s := [44]) (l := 32 :: (paramB p ++ Lib.joinTail [44, 32] (r.map paramB))) (by decide) (neq (by decide)) (Lx.bl rfl (Lx.append (lx_param h1 h2 (tail_after _ hm).1) (lx_ptail r (fun q hq => h q (List.mem_cons_of_mem _ hq)) m hm)))
theorem lx_fn {x : Fn} (h : FitF x) (m : List UInt8) : Lx (fnB x) (keysF x) m := by
  obtain ⟨hn, hp, hb⟩ := h
  simp only [fnB, keysF, List.append_assoc, List.cons_append, List.nil_append]
  have hblk : Lx (123 :: 10 :: (stsB sp x.body ++ ([] ++ 125 :: [10]))) ((3, [123]) :: (keysSs x.body ++ (3, [125]) :: [])) m := lx_block rfl (fun m => lx_sts x.body 0 hb sp rfl m) (neq (by decide)) (Lx.blank rfl)
  have hrest : Lx (41 :: 32 :: 123 :: 10 :: (stsB sp x.body ++ [125, 10])) ((3, [41]) :: (3, [123]) :: (keysSs x.body ++ [(3, [125])])) m := Lx.mk_ (s := [41]) (by decide) (neq (c := 32) (by decide)) (Lx.bl rfl hblk)
  refine Lx.ke (s := kFn) (by decide) (fol (c := 32) ⟨rfl, rfl⟩) (Lx.bl rfl (Lx.na hn (fol (c := 40) ⟨rfl, rfl⟩) ?_))
  cases hps : x.params with
  | nil =>
    simp only [List.map_nil, Lib.join_nil, List.nil_append, keysPs]
    exact Lx.mk_ (s := [40]) (by decide) (neq (c := 41) (by decide)) hrest
  | cons p r =>
    rw [hps] at hp
    obtain ⟨h1, h2⟩ := hp p List.mem_cons_self
    simp only [List.map_cons, Lib.join_cons, List.append_assoc]
    rw [keysPs_cons, List.append_assoc]
    refine Lx.mk_ (s := [40]) (by decide) ?_ (Lx.append (lx_param h1 h2 (by rw [List.append_assoc]; exact (tail_after _ (after_cons ⟨rfl, rfl⟩ (by decide))).1)) (Lx.append (lx_ptail r (fun q hq => hp q (List.mem_cons_of_mem _ hq)) _ (after_cons ⟨rfl, rfl⟩ (by decide))) hrest))
    obtain ⟨c, q, h3, h4⟩ := name_head h1
    unfold paramB
    rw [h3]
    exact noeq_cons h4
theorem lx_program : (l : List Fn) → (∀ x ∈ l, FitF x) → (m : List UInt8) → Lx (printB l) (keysFs l) m
  | [], h, m => Lx.nil m
  | x :: r, h, m => by
    have hp : printB (x :: r) = fnB x ++ printB r := by simp only [printB, List.map_cons, List.flatten_cons]
    rw [hp]
    exact Lx.append (lx_fn (h x List.mem_cons_self) _) (lx_program r (fun y hy => h y (List.mem_cons_of_mem _ hy)) m)
theorem lexed {l : List Fn} (h : ∀ x ∈ l, FitF x) (hn : (keysFs l).length ≤ 1500) : ∃ T p, T.map key = keysFs l ∧ LexE (printB l) 0 0 (T ++ [⟨4, [], p⟩]) := by
  obtain ⟨T, h1, h2⟩ := lx_program l h [] 0 0 (by omega)
  refine ⟨T, ((0 + (printB l).length : Nat) : Int), h1, ?_⟩
  have := h2 [⟨4, [], ((0 + (printB l).length : Nat) : Int)⟩] ⟨1, rfl⟩
  rwa [List.append_nil] at this
theorem par_len (k : List (Int × List UInt8)) : (par k).length = k.length + 2 := by simp [par]
theorem parK_len (lv : Nat) (e : Ex) (k : List (Int × List UInt8)) : (parK lv e k).length = k.length + parN lv e := by
  unfold parK parN
  split
  · exact par_len k
  · rfl
mutual
theorem keys_cnt : (e : Ex) → (keysE e).length = cnt e
  | .num .. => rfl
  | .var .. => rfl
  | .bin _ op l r => by
    simp only [keysE, cnt, List.length_append, List.length_cons, parK_len, keys_cnt l, keys_cnt r]
    omega
  | .un _ op x => by
    simp only [keysE, cnt, List.length_cons, parK_len, keys_cnt x]
    omega
  | .call _ f args => by
    simp only [keysE, cnt, List.length_append, List.length_cons, List.length_nil, keysA_cnt args]
    omega
  | .new _ x => by
    simp only [keysE, cnt, List.length_cons, par_len, keys_cnt x]
    omega
  | .len _ x => by
    simp only [keysE, cnt, List.length_cons, par_len, keys_cnt x]
    omega
  | .item _ x i => by
    simp only [keysE, cnt, List.length_append, List.length_cons, List.length_nil, keys_cnt i]
    split
    · simp only [par_len, keys_cnt x]; omega
    · simp only [parK_len, keys_cnt x]; omega
  | .input .. => rfl
theorem keysA_cnt : (l : List Ex) → (keysA l).length = cnts l
  | [] => rfl
  | [e] => by simp only [keysA, cnts, List.length_append, List.length_nil, keys_cnt e]
  | e :: e2 :: r => by
    have := keysA_cnt (e2 :: r)
    rw [keysA, cnts, List.length_append, keys_cnt e]
    simp only [List.length_cons, this]
    omega
end
mutual
theorem keysS_cnt : (s : St) → (keysS s).length = cntS s
  | .var _ s v => by simp only [keysS, cntS, List.length_append, List.length_cons, List.length_nil, keys_cnt v]; omega
  | .set _ s v => by simp only [keysS, cntS, List.length_append, List.length_cons, List.length_nil, keys_cnt v]; omega
  | .put _ s i v => by simp only [keysS, cntS, List.length_append, List.length_cons, List.length_nil, keys_cnt v, keys_cnt i]; omega
  | .cond _ v t e => by
    simp only [keysS, cntS, List.length_append, List.length_cons, List.length_nil, par_len, keys_cnt v, keysSs_cnt t]
    split
    · simp only [List.length_nil]; omega
    · simp only [List.length_append, List.length_cons, List.length_nil, keysSs_cnt e]; omega
  | .loop _ v t => by simp only [keysS, cntS, List.length_append, List.length_cons, List.length_nil, par_len, keys_cnt v, keysSs_cnt t]; omega
  | .ret _ v => by simp only [keysS, cntS, List.length_append, List.length_cons, List.length_nil, keys_cnt v]; omega
  | .print _ v => by simp only [keysS, cntS, List.length_append, List.length_cons, List.length_nil, keys_cnt v]; omega
  | .call _ v => by simp only [keysS, cntS, List.length_append, List.length_cons, List.length_nil, keys_cnt v]; omega
theorem keysSs_cnt : (l : List St) → (keysSs l).length = cntSs l
  | [] => rfl
  | s :: r => by simp only [keysSs, cntSs, List.length_append, keysS_cnt s, keysSs_cnt r]
end
theorem keysPs_cnt : (l : List (List UInt8 × Int)) → (keysPs l).length = cntPs l
  | [] => rfl
  | [p] => rfl
  | p :: q :: r => by
    have := keysPs_cnt (q :: r)
    rw [keysPs, cntPs, List.length_append]
    simp only [List.length_cons, this, keysP, List.length_nil]
    omega
theorem keysF_cnt (x : Fn) : (keysF x).length = cntF x := by
  simp only [keysF, cntF, List.length_append, List.length_cons, List.length_nil, keysPs_cnt, keysSs_cnt]
  omega
theorem keysFs_cnt : (l : List Fn) → (keysFs l).length = cntFs l
  | [] => rfl
  | x :: r => by simp only [keysFs, cntFs, List.length_append, keysF_cnt, keysFs_cnt r]
end Go.Proofs.YtinbahmpifokaaaDoor.TreeP

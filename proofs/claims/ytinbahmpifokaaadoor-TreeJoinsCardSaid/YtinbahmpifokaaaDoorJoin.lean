/- What is read does not hang on what stands behind it: texts one behind the other are read as the programs of both. No program in sight. No conditions. -/
import Derived.Test.YtinbahmpifokaaaDoorTreeBck
namespace Go.Proofs.YtinbahmpifokaaaDoor.TreeP
set_option linter.unusedVariables false
set_option linter.unusedSimpArgs false
/-- What is seen of the next token. -/
def hk (ts : List Tok) : Int × List UInt8 := (headKind ts, headText ts)
theorem hk_app {c c' r r' : List Tok} (h : c'.map key = c.map key) (hr : c ≠ [] ∨ hk r' = hk r) : hk (c' ++ r') = hk (c ++ r) := by
  cases c with
  | nil =>
    cases c' with
    | nil => exact hr.resolve_left (fun f => f rfl)
    | cons _ _ => simp at h
  | cons t u =>
    cases c' with
    | nil => simp at h
    | cons t' u' =>
      simp only [List.map_cons, List.cons.injEq] at h
      exact h.1
theorem hk_kind {t ts : List Tok} (h : hk t = hk ts) : headKind t = headKind ts := congrArg Prod.fst h
theorem hk_text {t ts : List Tok} (h : hk t = hk ts) : headText t = headText ts := congrArg Prod.snd h
theorem see_hk {s : List UInt8} {t ts : List Tok} (h : hk t = hk ts) : seeB s t = seeB s ts := by
  unfold seeB
  rw [hk_kind h, hk_text h]
theorem op_hk {lv : Nat} {t ts : List Tok} (h : hk t = hk ts) : opP lv t = opP lv ts := by
  unfold opP
  simp only [see_hk h]
/-- It is read of what it takes alone, and (z: not even that) of what stands next. -/
def Sm {α : Type} (z : Bool) (rel : α → α → Prop) (ts : List Tok) (a : α) (r : List Tok) (F : List Tok → PR α) : Prop :=
  ∃ c, ts = c ++ r ∧ (z = true → c ≠ []) ∧ ∀ c' r', c'.map key = c.map key → (z = false → hk r' = hk r) → ∃ a', F (c' ++ r') = some (.ok (a', r')) ∧ rel a a'
section
variable {α β : Type} {z z1 z2 : Bool} {rel : α → α → Prop} {rel2 : β → β → Prop} {ts r r1 u : List Tok} {a : α} {b : β} {F F' : List Tok → PR α}
theorem Sm.weak (h : Sm z rel ts a r F) : Sm false rel ts a r F := by
  obtain ⟨c, e, hz, k⟩ := h
  exact ⟨c, e, fun f => (nomatch f), fun c' r' hc hr => k c' r' hc (fun _ => hr rfl)⟩
theorem Sm.congr (h : Sm z rel ts a r F) (e : ∀ t, hk t = hk ts → F' t = F t) : Sm z rel ts a r F' := by
  obtain ⟨c, hc, hz, k⟩ := h
  refine ⟨c, hc, hz, fun c' r' h1 h2 => ?_⟩
  rw [e _ (by
    rw [hc]
    refine hk_app h1 ?_
    cases z with
    | true => exact Or.inl (hz rfl)
    | false => exact Or.inr (h2 rfl))]
  exact k c' r' h1 h2
theorem Sm.bind {G : List Tok → α → List Tok → PR β} (h1 : Sm z1 rel ts a r1 F) (h2 : ∀ t' a', hk t' = hk ts → rel a a' → Sm z2 rel2 r1 b r (G t' a')) : Sm z2 rel2 ts b r (fun t => andThen (F t) (G t)) := by
  obtain ⟨c1, e1, n1, k1⟩ := h1
  have key1 : ∀ c2, r1 = c2 ++ r → (z2 = true → c2 ≠ []) → ∀ d2 r', d2.map key = c2.map key → (z2 = false → hk r' = hk r) → hk (d2 ++ r') = hk r1 := by
    intro c2 e2 n2 d2 r' hd hr
    rw [e2]
    refine hk_app hd ?_
    cases z2 with
    | true => exact Or.inl (n2 rfl)
    | false => exact Or.inr (hr rfl)
  obtain ⟨a0, _, ra0⟩ := k1 c1 r1 rfl (fun _ => rfl)
  obtain ⟨c2, e2, n2, _⟩ := h2 ts a0 rfl ra0
  refine ⟨c1 ++ c2, by rw [e1, e2, List.append_assoc], fun hz => by
    have := n2 hz
    intro f
    exact this (List.append_eq_nil_iff.1 f).2, fun c' r' hc hr => ?_⟩
  rw [List.map_append] at hc
  obtain ⟨d1, d2, rfl, hd1, hd2⟩ := List.map_eq_append_iff.1 hc
  obtain ⟨a', ha, hra⟩ := k1 d1 (d2 ++ r') hd1 (fun _ => key1 c2 e2 n2 d2 r' hd2 hr)
  have ht : hk (d1 ++ d2 ++ r') = hk ts := by
    rw [e1, List.append_assoc]
    exact hk_app hd1 (Or.inr (key1 c2 e2 n2 d2 r' hd2 hr))
  obtain ⟨c3, e3, n3, k3⟩ := h2 (d1 ++ d2 ++ r') a' ht hra
  have h3 : c3 = c2 := List.append_cancel_right (e3.symm.trans e2)
  subst h3
  obtain ⟨b', hb, hrb⟩ := k3 d2 r' hd2 hr
  refine ⟨b', ?_, hrb⟩
  simp only [List.append_assoc] at hb ⊢
  rw [ha]
  exact hb
theorem Sm.map {A : List Tok → α → β} (h : Sm z rel ts a r F) (hA : ∀ t a', hk t = hk ts → rel a a' → rel2 b (A t a')) : Sm z rel2 ts b r (fun t => andThen (F t) fun x s => okP (A t x) s) := by
  obtain ⟨c, e, hz, k⟩ := h
  refine ⟨c, e, hz, fun c' r' hc hr => ?_⟩
  obtain ⟨a', ha, hra⟩ := k c' r' hc hr
  refine ⟨A (c' ++ r') a', ?_, hA _ _ ?_ hra⟩
  · simp only [ha]
    rfl
  · rw [e]
    refine hk_app hc ?_
    cases z with
    | true => exact Or.inl (hz rfl)
    | false => exact Or.inr (hr rfl)
theorem Sm.pure {A : List Tok → α} (h : ∀ t, hk t = hk r → rel a (A t)) : Sm false rel r a r (fun t => okP (A t) t) :=
  ⟨[], rfl, fun f => (nomatch f), fun c' r' hc hr => by
    have : c' = [] := by cases c' with | nil => rfl | cons _ _ => simp at hc
    subst this
    exact ⟨A r', rfl, h r' (hr rfl)⟩⟩
theorem Sm.tail {t : Tok} (h : Sm z rel u a r F) : Sm z rel (t :: u) a r (fun x => F x.tail) := by
  obtain ⟨c, e, hz, k⟩ := h
  refine ⟨t :: c, by rw [e]; rfl, fun _ f => (nomatch f), fun c' r' hc hr => ?_⟩
  cases c' with
  | nil => simp at hc
  | cons t' c' =>
    simp only [List.map_cons, List.cons.injEq] at hc
    exact k c' r' hc.2 hr
/-- The next token is taken. -/
theorem Sm.took {t : Tok} {A : List Tok → α} (h : ∀ x, hk x = hk (t :: r) → rel a (A x)) : Sm true rel (t :: r) a r (fun x => okP (A x) x.tail) :=
  ⟨[t], rfl, fun _ f => (nomatch f), fun c' r' hc _ => by
    obtain ⟨t', rfl⟩ : ∃ t', c' = [t'] := by
      cases c' with
      | nil => simp at hc
      | cons t' u =>
        cases u with
        | nil => exact ⟨t', rfl⟩
        | cons _ _ => simp at hc
    simp only [List.map_cons, List.map_nil, List.cons.injEq, and_true] at hc
    exact ⟨A ([t'] ++ r'), rfl, h _ hc⟩⟩
end
theorem see_head {s : List UInt8} {ts : List Tok} (h : seeB s ts = true) : ∃ t, ts = t :: ts.tail := by
  cases ts with
  | nil => simp [seeB, headKind] at h
  | cons t r => exact ⟨t, rfl⟩
abbrev Any {α : Type} : α → α → Prop := fun _ _ => True
theorem must_sm {s : List UInt8} {ts r : List Tok} {v : Unit} (h : must s ts = some (.ok (v, r))) : Sm true Any ts v r (must s) := by
  obtain ⟨rfl, hs⟩ := must_ok h
  obtain ⟨t, ht⟩ := see_head hs
  rw [ht]
  refine Sm.congr (Sm.took (A := fun _ => ()) (fun _ _ => trivial)) fun x hx => ?_
  unfold must
  rw [see_hk hx, ← ht, hs]
  rfl
theorem name_sm {ts r : List Tok} {s : List UInt8} (h : nameP ts = some (.ok (s, r))) : Sm true Eq ts s r nameP := by
  obtain ⟨rfl, rfl⟩ := nameP_ok h
  have hc : ∃ t, ts = t :: ts.tail := by
    cases ts with
    | nil => simp [nameP, headKind, failP] at h
    | cons t r => exact ⟨t, rfl⟩
  obtain ⟨t, ht⟩ := hc
  have h2 : nameP ts = okP (headText ts) ts.tail := h
  rw [ht] at h2 ⊢
  refine Sm.congr (Sm.took (A := headText) (fun x hx => (hk_text hx).symm)) fun x hx => ?_
  unfold nameP at h2 ⊢
  rw [hk_kind hx, hk_text hx]
  split at h2
  · cases h2
  · rename_i n1
    rw [if_neg n1]
    split at h2
    · cases h2
    · rename_i n2
      rw [if_neg n2]
abbrev RE (x y : Ex) : Prop := stripE y = stripE x
abbrev REs (x y : List Ex) : Prop := stripEs y = stripEs x
theorem stripEs_append (l m : List Ex) : stripEs (l ++ m) = stripEs l ++ stripEs m := by
  induction l with
  | nil => rfl
  | cons a r ih => simp only [List.cons_append, stripEs, ih]
structure LocE (f : Nat) : Prop where
  expr : ∀ {lv d ts e r}, exprF f lv d ts = some (.ok (e, r)) → ∀ g, f ≤ g → Sm false RE ts e r (exprF g lv d)
  bin : ∀ {lv d a x ts e r}, binF f lv d a x ts = some (.ok (e, r)) → ∀ g, f ≤ g → ∀ a' x', RE x x' → Sm false RE ts e r (binF g lv d a' x')
  unary : ∀ {d ts e r}, unaryF f d ts = some (.ok (e, r)) → ∀ g, f ≤ g → Sm false RE ts e r (unaryF g d)
  item : ∀ {d a x ts e r}, itemF f d a x ts = some (.ok (e, r)) → ∀ g, f ≤ g → ∀ a' x', RE x x' → Sm false RE ts e r (itemF g d a' x')
  alone : ∀ {d ts e r}, aloneF f d ts = some (.ok (e, r)) → ∀ g, f ≤ g → Sm true RE ts e r (aloneF g d)
  first : ∀ {d ts e r}, firstF f d ts = some (.ok (e, r)) → ∀ g, f ≤ g → Sm false RE ts e r (firstF g d)
  args : ∀ {d ts l r}, argsF f d ts = some (.ok (l, r)) → ∀ g, f ≤ g → Sm true REs ts l r (argsF g d)
  rest : ∀ {d b l ts l' r}, restF f d b l ts = some (.ok (l', r)) → ∀ g, f ≤ g → ∀ m, REs l m → Sm true REs ts l' r (restF g d b m)
theorem up_one {f g : Nat} (h : f + 1 ≤ g) : ∃ k, g = k + 1 ∧ f ≤ k := ⟨g - 1, by omega, by omega⟩
theorem first_or {b : Bool} {ts r : List Tok} {v : Unit} (h : (if b then okP () ts else must [44] ts) = some (.ok (v, r))) : Sm false Any ts v r (fun t => if b then okP () t else must [44] t) := by
  cases b with
  | true =>
    obtain ⟨_, rfl⟩ := okP_ok h
    exact Sm.congr (Sm.pure (A := fun _ => ()) (fun _ _ => trivial)) fun _ _ => rfl
  | false => exact (Sm.congr (must_sm h) fun _ _ => rfl).weak
theorem locE : (f : Nat) → LocE f
  | 0 => ⟨fun h => by simp [exprF] at h, fun h => by simp [binF] at h, fun h => by simp [unaryF] at h, fun h => by simp [itemF] at h, fun h => by simp [aloneF] at h, fun h => by simp [firstF] at h, fun h => by simp [argsF] at h, fun h => by simp [restF] at h⟩
  | f + 1 => by
    have ih := locE f
    refine ⟨?_, ?_, ?_, ?_, ?_, ?_, ?_, ?_⟩
    · intro lv d ts e r h g hg
      obtain ⟨k, rfl, hk1⟩ := up_one hg
      simp only [exprF] at h
      split at h
      · rename_i h6
        exact (ih.unary h k hk1).congr fun t ht => by simp only [exprF]; rw [if_pos h6]
      · rename_i h6
        obtain ⟨x, t, h1, h2⟩ := andThen_ok h
        exact ((ih.expr h1 k hk1).bind (G := fun t x r => binF k lv d (headAt t) x r) fun t' a' _ hr => ih.bin h2 k hk1 _ _ hr).congr fun t ht => by simp only [exprF]; rw [if_neg h6]
    · intro lv d a x ts e r h g hg a' x' hx
      obtain ⟨k, rfl, hk1⟩ := up_one hg
      simp only [binF] at h
      split at h
      · rename_i hop
        obtain ⟨rfl, rfl⟩ := okP_ok h
        exact (Sm.pure (A := fun _ => x') (fun _ _ => hx)).congr fun t ht => by simp only [binF]; rw [op_hk ht, if_pos hop]
      · rename_i hop
        obtain ⟨y, t, h1, h2⟩ := andThen_ok h
        have hs : seeB (opP lv ts) ts = true := by
          unfold opP at hop ⊢
          cases hf : (levelList.getD lv []).find? (fun m => seeB m ts) with
          | none => rw [hf] at hop; exact absurd rfl hop
          | some m => exact List.find?_some (p := fun m => seeB m ts) hf
        obtain ⟨t0, ht0⟩ := see_head hs
        have hS := Sm.tail (t := t0) (ih.expr h1 k hk1)
        rw [← ht0] at hS
        refine (hS.bind (G := fun t y r => binF k lv d a' (.bin a' (opP lv t) x' y) r) fun t' y' ht hr => ih.bin h2 k hk1 _ _ ?_).congr fun t ht => ?_
        · unfold RE at *
          simp only [stripE, op_hk ht, hr, hx]
        · simp only [binF]
          rw [if_neg (by rw [op_hk ht]; exact hop)]
    · intro d ts e r h g hg
      obtain ⟨k, rfl, hk1⟩ := up_one hg
      simp only [unaryF] at h
      split at h
      · exact (failP_ok h).elim
      · rename_i hd
        split at h
        · rename_i hs
          obtain ⟨x, t, h1, h2⟩ := andThen_ok h
          obtain ⟨rfl, rfl⟩ := okP_ok h2
          obtain ⟨t0, ht0⟩ := see_head hs
          have hS := Sm.tail (t := t0) (ih.unary h1 k hk1)
          rw [← ht0] at hS
          refine (hS.map (A := fun t x => .un (headAt t) [45] x) fun t' x' ht hr => ?_).congr fun t ht => ?_
          · unfold RE at *
            simp only [stripE, hr]
          · simp only [unaryF]
            rw [if_neg hd, see_hk ht, if_pos hs]
        · rename_i hs1
          split at h
          · rename_i hs
            obtain ⟨x, t, h1, h2⟩ := andThen_ok h
            obtain ⟨rfl, rfl⟩ := okP_ok h2
            obtain ⟨t0, ht0⟩ := see_head hs
            have hS := Sm.tail (t := t0) (ih.unary h1 k hk1)
            rw [← ht0] at hS
            refine (hS.map (A := fun t x => .un (headAt t) [33] x) fun t' x' ht hr => ?_).congr fun t ht => ?_
            · unfold RE at *
              simp only [stripE, hr]
            · simp only [unaryF]
              rw [if_neg hd, see_hk ht, if_neg hs1, see_hk ht, if_pos hs]
          · rename_i hs2
            obtain ⟨x, t, h1, h2⟩ := andThen_ok h
            refine ((ih.first h1 k hk1).bind (G := fun t x r => itemF k d (headAt t) x r) fun t' x' ht hr => ih.item h2 k hk1 _ _ hr).congr fun t ht => ?_
            simp only [unaryF]
            rw [if_neg hd, see_hk ht, if_neg hs1, see_hk ht, if_neg hs2]
    · intro d a x ts e r h g hg a' x' hx
      obtain ⟨k, rfl, hk1⟩ := up_one hg
      simp only [itemF] at h
      split at h
      · rename_i hs
        obtain ⟨i, t, h1, h2⟩ := andThen_ok h
        obtain ⟨v, t2, h3, h4⟩ := andThen_ok h2
        obtain ⟨t0, ht0⟩ := see_head hs
        have hS := Sm.tail (t := t0) (ih.expr h1 k hk1)
        rw [← ht0] at hS
        refine (hS.bind (G := fun t i r => andThen (must [93] r) fun _ r2 => itemF k d a' (.item a' x' i) r2) fun t' i' ht hr => (must_sm h3).bind (G := fun _ _ r2 => itemF k d a' (.item a' x' i') r2) fun _ _ _ _ => ih.item h4 k hk1 _ _ ?_).congr fun t ht => ?_
        · unfold RE at *
          simp only [stripE, hr, hx]
        · simp only [itemF]
          rw [see_hk ht, if_pos hs]
      · rename_i hs
        obtain ⟨rfl, rfl⟩ := okP_ok h
        exact (Sm.pure (A := fun _ => x') (fun _ _ => hx)).congr fun t ht => by simp only [itemF]; rw [see_hk ht, if_neg hs]
    · intro d ts e r h g hg
      obtain ⟨k, rfl, hk1⟩ := up_one hg
      simp only [aloneF] at h
      obtain ⟨v, t, h1, h2⟩ := andThen_ok h
      obtain ⟨y, t2, h3, h4⟩ := andThen_ok h2
      obtain ⟨v2, t3, h5, h6⟩ := andThen_ok h4
      obtain ⟨rfl, rfl⟩ := okP_ok h6
      exact ((must_sm h1).bind (G := fun _ _ r => andThen (exprF k 0 (d + 1) r) fun x r2 => andThen (must [41] r2) fun _ r3 => okP x r3) fun _ _ _ _ => (ih.expr h3 k hk1).bind (G := fun _ x r2 => andThen (must [41] r2) fun _ r3 => okP x r3) fun _ x' _ hx => (must_sm h5).map (A := fun _ _ => x') fun _ _ _ _ => hx).congr fun t ht => by simp only [aloneF]
    · intro d ts e r h g hg
      obtain ⟨k, rfl, hk1⟩ := up_one hg
      simp only [firstF] at h
      split at h
      · rename_i h2k
        split at h
        · rename_i hn
          obtain ⟨rfl, rfl⟩ := okP_ok h
          have hc : ∃ t, ts = t :: ts.tail := by
            cases ts with
            | nil => simp [headKind] at h2k
            | cons t r => exact ⟨t, rfl⟩
          obtain ⟨t0, ht0⟩ := hc
          have hS := Sm.took (t := t0) (r := ts.tail) (rel := RE) (a := .num (headAt ts) (numP (headText ts))) (A := fun x => .num (headAt x) (numP (headText x))) (fun x hx => by
            rw [← ht0] at hx
            unfold RE
            simp only [stripE, hk_text hx])
          rw [← ht0] at hS
          refine hS.weak.congr fun t ht => ?_
          simp only [firstF]
          rw [hk_kind ht, if_pos h2k, hk_text ht, if_pos hn]
        · exact (failP_ok h).elim
      · rename_i h2k
        split at h
        · rename_i hs1
          exact (ih.alone h k hk1).weak.congr fun t ht => by simp only [firstF]; rw [hk_kind ht, if_neg h2k, see_hk ht, if_pos hs1]
        · rename_i hs1
          split at h
          · rename_i hs2
            obtain ⟨x, t, h1, h2⟩ := andThen_ok h
            obtain ⟨rfl, rfl⟩ := okP_ok h2
            obtain ⟨t0, ht0⟩ := see_head hs2
            have hS := Sm.tail (t := t0) (ih.alone h1 k hk1)
            rw [← ht0] at hS
            refine (hS.map (A := fun t x => .new (headAt t) x) fun t' x' ht hr => ?_).weak.congr fun t ht => ?_
            · unfold RE at *
              simp only [stripE, hr]
            · simp only [firstF]
              rw [hk_kind ht, if_neg h2k, see_hk ht, if_neg hs1, see_hk ht, if_pos hs2]
          · rename_i hs2
            split at h
            · rename_i hs3
              obtain ⟨x, t, h1, h2⟩ := andThen_ok h
              obtain ⟨rfl, rfl⟩ := okP_ok h2
              obtain ⟨t0, ht0⟩ := see_head hs3
              have hS := Sm.tail (t := t0) (ih.alone h1 k hk1)
              rw [← ht0] at hS
              refine (hS.map (A := fun t x => .len (headAt t) x) fun t' x' ht hr => ?_).weak.congr fun t ht => ?_
              · unfold RE at *
                simp only [stripE, hr]
              · simp only [firstF]
                rw [hk_kind ht, if_neg h2k, see_hk ht, if_neg hs1, see_hk ht, if_neg hs2, see_hk ht, if_pos hs3]
            · rename_i hs3
              split at h
              · rename_i hs4
                obtain ⟨v, t, h1, h2⟩ := andThen_ok h
                obtain ⟨v2, t2, h3, h4⟩ := andThen_ok h2
                obtain ⟨rfl, rfl⟩ := okP_ok h4
                obtain ⟨t0, ht0⟩ := see_head hs4
                have hS := Sm.tail (t := t0) (must_sm h1)
                rw [← ht0] at hS
                refine (hS.bind (G := fun t _ r => andThen (must [41] r) fun _ r2 => okP (.input (headAt t)) r2) fun t' _ ht _ => (must_sm h3).map (A := fun _ _ => .input (headAt t')) (rel2 := RE) (b := .input (headAt ts)) fun _ _ _ _ => rfl).weak.congr fun t ht => ?_
                simp only [firstF]
                rw [hk_kind ht, if_neg h2k, see_hk ht, if_neg hs1, see_hk ht, if_neg hs2, see_hk ht, if_neg hs3, see_hk ht, if_pos hs4]
              · rename_i hs4
                obtain ⟨n, t, h1, h2⟩ := andThen_ok h
                refine ((name_sm h1).bind (G := fun t n r => if seeB [40] r then andThen (argsF k d r) fun l r2 => okP (.call (headAt t) n l) r2 else okP (.var (headAt t) n) r) (z2 := false) (rel2 := RE) (b := e) (r := r) fun t' n' ht hn => ?_).congr fun t ht => ?_
                · cases hn
                  split at h2
                  · rename_i hs5
                    obtain ⟨l, t2, h3, h4⟩ := andThen_ok h2
                    obtain ⟨rfl, rfl⟩ := okP_ok h4
                    refine ((ih.args h3 k hk1).map (A := fun _ l => .call (headAt t') n l) fun _ l' _ hl => ?_).weak.congr fun t ht => ?_
                    · unfold RE
                      unfold REs at hl
                      simp only [stripE, hl]
                    · rw [see_hk ht, if_pos hs5]
                  · rename_i hs5
                    obtain ⟨rfl, rfl⟩ := okP_ok h2
                    exact (Sm.pure (A := fun _ => .var (headAt t') n) (fun _ _ => rfl)).congr fun t ht => by rw [see_hk ht, if_neg hs5]
                · simp only [firstF]
                  rw [hk_kind ht, if_neg h2k, see_hk ht, if_neg hs1, see_hk ht, if_neg hs2, see_hk ht, if_neg hs3, see_hk ht, if_neg hs4]
    · intro d ts l r h g hg
      obtain ⟨k, rfl, hk1⟩ := up_one hg
      simp only [argsF] at h
      obtain ⟨v, t, h1, h2⟩ := andThen_ok h
      exact ((must_sm h1).bind (G := fun _ _ r => restF k d true [] r) fun _ _ _ _ => ih.rest h2 k hk1 _ rfl).congr fun t ht => by simp only [argsF]
    · intro d b l ts l' r h g hg m hm
      obtain ⟨k, rfl, hk1⟩ := up_one hg
      simp only [restF] at h
      split at h
      · rename_i hs
        obtain ⟨rfl, rfl⟩ := okP_ok h
        obtain ⟨t0, ht0⟩ := see_head hs
        have hS := Sm.took (t := t0) (r := ts.tail) (rel := REs) (a := l') (A := fun _ => m) (fun _ _ => hm)
        rw [← ht0] at hS
        exact hS.congr fun t ht => by simp only [restF]; rw [see_hk ht, if_pos hs]
      · rename_i hs
        obtain ⟨v, t, h1, h2⟩ := andThen_ok h
        obtain ⟨y, t2, h3, h4⟩ := andThen_ok h2
        refine ((first_or h1).bind (G := fun _ _ r => andThen (exprF k 0 (d + 1) r) fun x r2 => restF k d false (m ++ [x]) r2) fun _ _ _ _ => (ih.expr h3 k hk1).bind (G := fun _ x r2 => restF k d false (m ++ [x]) r2) fun _ x' _ hx => ih.rest h4 k hk1 _ ?_).congr fun t ht => ?_
        · unfold REs RE at *
          rw [stripEs_append, stripEs_append, hm]
          simp only [stripEs, hx]
        · simp only [restF]
          rw [see_hk ht, if_neg hs]
abbrev RS (x y : St) : Prop := stripS y = stripS x
abbrev RSs (x y : List St) : Prop := stripSs y = stripSs x
theorem stripSs_append (l m : List St) : stripSs (l ++ m) = stripSs l ++ stripSs m := by
  induction l with
  | nil => rfl
  | cons a r ih => simp only [List.cons_append, stripSs, ih]
theorem expr_sm {f lv d : Nat} {ts r : List Tok} {e : Ex} (h : exprF f lv d ts = some (.ok (e, r))) {g : Nat} (hg : f ≤ g) : Sm false RE ts e r (exprF g lv d) := (locE f).expr h g hg
structure LocS (f : Nat) : Prop where
  block : ∀ {d ts l r}, blockF f d ts = some (.ok (l, r)) → ∀ g, f ≤ g → Sm true RSs ts l r (blockF g d)
  stmts : ∀ {d l ts l' r}, stmtsF f d l ts = some (.ok (l', r)) → ∀ g, f ≤ g → ∀ m, RSs l m → Sm true RSs ts l' r (stmtsF g d m)
  stmt : ∀ {d ts s r}, stmtF f d ts = some (.ok (s, r)) → ∀ g, f ≤ g → Sm false RS ts s r (stmtF g d)
  named : ∀ {ts s r}, namedF f ts = some (.ok (s, r)) → ∀ g, f ≤ g → Sm false RS ts s r (namedF g)
/-- Behind a word that is seen. -/
theorem Sm.behind {α : Type} {z : Bool} {rel : α → α → Prop} {s : List UInt8} {ts r : List Tok} {a : α} {F : List Tok → PR α} (hs : seeB s ts = true) (h : Sm z rel ts.tail a r F) : Sm z rel ts a r (fun x => F x.tail) := by
  obtain ⟨t0, ht0⟩ := see_head hs
  have hS := Sm.tail (t := t0) h
  rwa [← ht0] at hS
theorem Sm.seen {α : Type} {rel : α → α → Prop} {s : List UInt8} {ts : List Tok} {a : α} {A : List Tok → α} (hs : seeB s ts = true) (h : ∀ x, hk x = hk ts → rel a (A x)) : Sm true rel ts a ts.tail (fun x => okP (A x) x.tail) := by
  obtain ⟨t0, ht0⟩ := see_head hs
  have hS := Sm.took (t := t0) (r := ts.tail) (rel := rel) (a := a) (A := A) (fun x hx => h x (by rw [← ht0] at hx; exact hx))
  rwa [← ht0] at hS
theorem locS : (f : Nat) → LocS f
  | 0 => ⟨fun h => by simp [blockF] at h, fun h => by simp [stmtsF] at h, fun h => by simp [stmtF] at h, fun h => by simp [namedF] at h⟩
  | f + 1 => by
    have ih := locS f
    have ie := locE f
    refine ⟨?_, ?_, ?_, ?_⟩
    · intro d ts l r h g hg
      obtain ⟨k, rfl, hk1⟩ := up_one hg
      simp only [blockF] at h
      split at h
      · exact (failP_ok h).elim
      · rename_i hd
        obtain ⟨u, t, h1, h2⟩ := andThen_ok h
        exact ((must_sm h1).bind (G := fun _ _ r => stmtsF k d [] r) fun _ _ _ _ => ih.stmts h2 k hk1 _ rfl).congr fun t ht => by simp only [blockF]; rw [if_neg hd]
    · intro d l ts l' r h g hg m hm
      obtain ⟨k, rfl, hk1⟩ := up_one hg
      simp only [stmtsF] at h
      split at h
      · rename_i hs
        obtain ⟨rfl, rfl⟩ := okP_ok h
        exact (Sm.seen (A := fun _ => m) hs fun _ _ => hm).congr fun t ht => by simp only [stmtsF]; rw [see_hk ht, if_pos hs]
      · rename_i hs
        obtain ⟨s, t, h1, h2⟩ := andThen_ok h
        refine ((ih.stmt h1 k hk1).bind (G := fun _ s r => stmtsF k d (m ++ [s]) r) fun _ s' _ hx => ih.stmts h2 k hk1 _ ?_).congr fun t ht => ?_
        · unfold RSs RS at *
          rw [stripSs_append, stripSs_append, hm]
          simp only [stripSs, hx]
        · simp only [stmtsF]
          rw [see_hk ht, if_neg hs]
    · intro d ts s r h g hg
      obtain ⟨k, rfl, hk1⟩ := up_one hg
      simp only [stmtF] at h
      split at h
      · rename_i hs
        obtain ⟨v, t, h1, h2⟩ := andThen_ok h
        obtain ⟨b, t2, h3, h4⟩ := andThen_ok h2
        refine (Sm.bind (Sm.behind hs (ie.alone h1 k hk1)) (G := fun t v r => andThen (blockF k (d + 1) r) fun b r2 => if seeB kElse r2 then andThen (blockF k (d + 1) r2.tail) fun e r3 => okP (St.cond (headAt t) v b e) r3 else okP (St.cond (headAt t) v b []) r2) (z2 := false) (rel2 := RS) fun t' v' ht hv => Sm.bind (ih.block h3 k hk1) (G := fun _ b r2 => if seeB kElse r2 then andThen (blockF k (d + 1) r2.tail) fun e r3 => okP (St.cond (headAt t') v' b e) r3 else okP (St.cond (headAt t') v' b []) r2) fun _ b' _ hb => ?_).congr fun t ht => ?_
        · split at h4
          · rename_i he
            obtain ⟨b2, t3, h5, h6⟩ := andThen_ok h4
            obtain ⟨rfl, rfl⟩ := okP_ok h6
            refine ((Sm.behind he (ih.block h5 k hk1)).map (A := fun _ e => St.cond (headAt t') v' b' e) fun _ e' _ he => ?_).weak.congr fun t ht => ?_
            · unfold RSs RS RE at *
              simp only [stripS, hv, hb, he]
            · rw [see_hk ht, if_pos he]
          · rename_i he
            obtain ⟨rfl, rfl⟩ := okP_ok h4
            refine (Sm.pure (A := fun _ => St.cond (headAt t') v' b' []) fun _ _ => ?_).congr fun t ht => ?_
            · unfold RSs RS RE at *
              simp only [stripS, hv, hb]
            · rw [see_hk ht, if_neg he]
        · simp only [stmtF]
          rw [see_hk ht, if_pos hs]
      · rename_i hs1
        split at h
        · rename_i hs
          obtain ⟨v, t, h1, h2⟩ := andThen_ok h
          obtain ⟨b, t2, h3, h4⟩ := andThen_ok h2
          obtain ⟨rfl, rfl⟩ := okP_ok h4
          refine (Sm.bind (Sm.behind hs (ie.alone h1 k hk1)) (G := fun t v r => andThen (blockF k (d + 1) r) fun b r2 => okP (St.loop (headAt t) v b) r2) (rel2 := RS) fun t' v' ht hv => (ih.block h3 k hk1).map (A := fun _ b => St.loop (headAt t') v' b) fun _ b' _ hb => ?_).weak.congr fun t ht => ?_
          · unfold RSs RS RE at *
            simp only [stripS, hv, hb]
          · simp only [stmtF]
            rw [see_hk ht, if_neg hs1, see_hk ht, if_pos hs]
        · rename_i hs2
          split at h
          · rename_i hs
            obtain ⟨n, t, h1, h2⟩ := andThen_ok h
            obtain ⟨u, t2, h3, h4⟩ := andThen_ok h2
            obtain ⟨v, t3, h5, h6⟩ := andThen_ok h4
            obtain ⟨u2, t4, h7, h8⟩ := andThen_ok h6
            obtain ⟨rfl, rfl⟩ := okP_ok h8
            refine (Sm.bind (Sm.behind hs (name_sm h1)) (G := fun t n r => andThen (must [61] r) fun _ r2 => andThen (exprF k 0 0 r2) fun v r3 => andThen (must [59] r3) fun _ r4 => okP (St.var (headAt t) n v) r4) (rel2 := RS) fun t' n' ht hn => Sm.bind (must_sm h3) (G := fun _ _ r2 => andThen (exprF k 0 0 r2) fun v r3 => andThen (must [59] r3) fun _ r4 => okP (St.var (headAt t') n' v) r4) fun _ _ _ _ => Sm.bind (expr_sm h5 hk1) (G := fun _ v r3 => andThen (must [59] r3) fun _ r4 => okP (St.var (headAt t') n' v) r4) fun _ v' _ hv => (must_sm h7).map (A := fun _ _ => St.var (headAt t') n' v') fun _ _ _ _ => ?_).weak.congr fun t ht => ?_
            · unfold RS RE at *
              simp only [stripS, hv, hn]
            · simp only [stmtF]
              rw [see_hk ht, if_neg hs1, see_hk ht, if_neg hs2, see_hk ht, if_pos hs]
          · rename_i hs3
            split at h
            · rename_i hs
              obtain ⟨v, t, h1, h2⟩ := andThen_ok h
              obtain ⟨u, t2, h3, h4⟩ := andThen_ok h2
              obtain ⟨rfl, rfl⟩ := okP_ok h4
              refine (Sm.bind (Sm.behind hs (expr_sm h1 hk1)) (G := fun t v r => andThen (must [59] r) fun _ r2 => okP (St.ret (headAt t) v) r2) (rel2 := RS) fun t' v' ht hv => (must_sm h3).map (A := fun _ _ => St.ret (headAt t') v') fun _ _ _ _ => ?_).weak.congr fun t ht => ?_
              · unfold RS RE at *
                simp only [stripS, hv]
              · simp only [stmtF]
                rw [see_hk ht, if_neg hs1, see_hk ht, if_neg hs2, see_hk ht, if_neg hs3, see_hk ht, if_pos hs]
            · rename_i hs4
              split at h
              · rename_i hs
                obtain ⟨v, t, h1, h2⟩ := andThen_ok h
                obtain ⟨u, t2, h3, h4⟩ := andThen_ok h2
                obtain ⟨rfl, rfl⟩ := okP_ok h4
                refine (Sm.bind (Sm.behind hs (expr_sm h1 hk1)) (G := fun t v r => andThen (must [59] r) fun _ r2 => okP (St.print (headAt t) v) r2) (rel2 := RS) fun t' v' ht hv => (must_sm h3).map (A := fun _ _ => St.print (headAt t') v') fun _ _ _ _ => ?_).weak.congr fun t ht => ?_
                · unfold RS RE at *
                  simp only [stripS, hv]
                · simp only [stmtF]
                  rw [see_hk ht, if_neg hs1, see_hk ht, if_neg hs2, see_hk ht, if_neg hs3, see_hk ht, if_neg hs4, see_hk ht, if_pos hs]
              · rename_i hs5
                obtain ⟨v, t, h1, h2⟩ := andThen_ok h
                obtain ⟨u, t2, h3, h4⟩ := andThen_ok h2
                obtain ⟨rfl, rfl⟩ := okP_ok h4
                refine (Sm.bind (ih.named h1 k hk1) (G := fun _ s r => andThen (must [59] r) fun _ r2 => okP s r2) (rel2 := RS) fun t' s' ht hv => (must_sm h3).map (A := fun _ _ => s') fun _ _ _ _ => hv).weak.congr fun t ht => ?_
                simp only [stmtF]
                rw [see_hk ht, if_neg hs1, see_hk ht, if_neg hs2, see_hk ht, if_neg hs3, see_hk ht, if_neg hs4, see_hk ht, if_neg hs5]
    · intro ts s r h g hg
      obtain ⟨k, rfl, hk1⟩ := up_one hg
      simp only [namedF] at h
      obtain ⟨n, t, h1, h2⟩ := andThen_ok h
      refine (Sm.bind (name_sm h1) (G := fun t n r => if seeB [40] r then andThen (argsF k 0 r) fun l r2 => okP (St.call (headAt t) (Ex.call (headAt t) n l)) r2 else if seeB [91] r then andThen (exprF k 0 1 r.tail) fun i r2 => andThen (must [93] r2) fun _ r3 => andThen (must [61] r3) fun _ r4 => andThen (exprF k 0 0 r4) fun v r5 => okP (St.put (headAt t) n i v) r5 else andThen (must [61] r) fun _ r2 => andThen (exprF k 0 0 r2) fun v r3 => okP (St.set (headAt t) n v) r3) (z2 := false) (rel2 := RS) (b := s) (r := r) fun t' n' ht hn => ?_).congr fun t ht => ?_
      · cases hn
        split at h2
        · rename_i hs1
          obtain ⟨l, t2, h3, h4⟩ := andThen_ok h2
          obtain ⟨rfl, rfl⟩ := okP_ok h4
          refine ((ie.args h3 k hk1).map (A := fun _ l => St.call (headAt t') (Ex.call (headAt t') n l)) fun _ l' _ hl => ?_).weak.congr fun t ht => ?_
          · unfold RS
            unfold REs at hl
            simp only [stripS, stripE, hl]
          · rw [see_hk ht, if_pos hs1]
        · rename_i hs1
          split at h2
          · rename_i hs2
            obtain ⟨i, t2, h3, h4⟩ := andThen_ok h2
            obtain ⟨u, t3, h5, h6⟩ := andThen_ok h4
            obtain ⟨u2, t4, h7, h8⟩ := andThen_ok h6
            obtain ⟨v, t5, h9, h10⟩ := andThen_ok h8
            obtain ⟨rfl, rfl⟩ := okP_ok h10
            refine (Sm.bind (Sm.behind hs2 (expr_sm h3 hk1)) (G := fun _ i r2 => andThen (must [93] r2) fun _ r3 => andThen (must [61] r3) fun _ r4 => andThen (exprF k 0 0 r4) fun v r5 => okP (St.put (headAt t') n i v) r5) (rel2 := RS) fun _ i' _ hi => Sm.bind (must_sm h5) (G := fun _ _ r3 => andThen (must [61] r3) fun _ r4 => andThen (exprF k 0 0 r4) fun v r5 => okP (St.put (headAt t') n i' v) r5) fun _ _ _ _ => Sm.bind (must_sm h7) (G := fun _ _ r4 => andThen (exprF k 0 0 r4) fun v r5 => okP (St.put (headAt t') n i' v) r5) fun _ _ _ _ => (expr_sm h9 hk1).map (A := fun _ v => St.put (headAt t') n i' v) fun _ v' _ hv => ?_).congr fun t ht => ?_
            · unfold RS RE at *
              simp only [stripS, hv, hi]
            · rw [see_hk ht, if_neg hs1, see_hk ht, if_pos hs2]
          · rename_i hs2
            obtain ⟨u, t2, h3, h4⟩ := andThen_ok h2
            obtain ⟨v, t3, h5, h6⟩ := andThen_ok h4
            obtain ⟨rfl, rfl⟩ := okP_ok h6
            refine (Sm.bind (must_sm h3) (G := fun _ _ r2 => andThen (exprF k 0 0 r2) fun v r3 => okP (St.set (headAt t') n v) r3) (rel2 := RS) fun _ _ _ _ => (expr_sm h5 hk1).map (A := fun _ v => St.set (headAt t') n v) fun _ v' _ hv => ?_).congr fun t ht => ?_
            · unfold RS RE at *
              simp only [stripS, hv]
            · rw [see_hk ht, if_neg hs1, see_hk ht, if_neg hs2]
      · simp only [namedF]
theorem params_sm : (f : Nat) → (b : Bool) → (l : List (List UInt8 × Int)) → (ts : List Tok) → {l' : List (List UInt8 × Int)} → {r : List Tok} → paramsF f b l ts = some (.ok (l', r)) → (g : Nat) → f ≤ g → Sm true Eq ts l' r (paramsF g b l)
  | 0, _, _, _, l', r, h, _, _ => by simp [paramsF] at h
  | f + 1, b, l, ts, l', r, h, g, hg => by
    obtain ⟨k, rfl, hk1⟩ := up_one hg
    simp only [paramsF] at h
    split at h
    · rename_i hs
      obtain ⟨rfl, rfl⟩ := okP_ok h
      exact (Sm.seen (A := fun _ => l') hs fun _ _ => rfl).congr fun t ht => by simp only [paramsF]; rw [see_hk ht, if_pos hs]
    · rename_i hs
      obtain ⟨u, t, h1, h2⟩ := andThen_ok h
      obtain ⟨n, t2, h3, h4⟩ := andThen_ok h2
      obtain ⟨u2, t3, h5, h6⟩ := andThen_ok h4
      refine (Sm.bind (first_or h1) (G := fun _ _ r => andThen (nameP r) fun n r2 => andThen (must [58] r2) fun _ r3 => if seeB kArr r3 then paramsF k false (l ++ [(n, 2)]) r3.tail else andThen (must kInt r3) fun _ r4 => paramsF k false (l ++ [(n, 1)]) r4) (z2 := true) (rel2 := Eq) (b := l') (r := r) fun _ _ _ _ => Sm.bind (name_sm h3) (G := fun _ n r2 => andThen (must [58] r2) fun _ r3 => if seeB kArr r3 then paramsF k false (l ++ [(n, 2)]) r3.tail else andThen (must kInt r3) fun _ r4 => paramsF k false (l ++ [(n, 1)]) r4) fun _ n' _ hn => Sm.bind (must_sm h5) (G := fun _ _ r3 => if seeB kArr r3 then paramsF k false (l ++ [(n', 2)]) r3.tail else andThen (must kInt r3) fun _ r4 => paramsF k false (l ++ [(n', 1)]) r4) fun _ _ _ _ => ?_).congr fun t ht => ?_
      · cases hn
        split at h6
        · rename_i ha
          exact (Sm.behind ha (params_sm f false _ _ h6 k hk1)).congr fun t ht => by rw [see_hk ht, if_pos ha]
        · rename_i ha
          obtain ⟨u3, t4, h7, h8⟩ := andThen_ok h6
          exact (Sm.bind (must_sm h7) (G := fun _ _ r4 => paramsF k false (l ++ [(n, 1)]) r4) fun _ _ _ _ => params_sm f false _ _ h8 k hk1).congr fun t ht => by rw [see_hk ht, if_neg ha]
      · simp only [paramsF]
        rw [see_hk ht, if_neg hs]
abbrev RF (x y : Fn) : Prop := stripF y = stripF x
theorem function_sm {f : Nat} {ts r : List Tok} {x : Fn} (h : functionF f ts = some (.ok (x, r))) {g : Nat} (hg : f ≤ g) : Sm true RF ts x r (functionF g) := by
  cases f with
  | zero => simp [functionF] at h
  | succ f =>
    obtain ⟨k, rfl, hk1⟩ := up_one hg
    simp only [functionF] at h
    obtain ⟨u, t, h1, h2⟩ := andThen_ok h
    obtain ⟨n, t2, h3, h4⟩ := andThen_ok h2
    obtain ⟨u2, t3, h5, h6⟩ := andThen_ok h4
    obtain ⟨ps, t4, h7, h8⟩ := andThen_ok h6
    obtain ⟨b, t5, h9, h10⟩ := andThen_ok h8
    obtain ⟨rfl, rfl⟩ := okP_ok h10
    refine (Sm.bind (must_sm h1) (G := fun t _ r => andThen (nameP r) fun n r2 => andThen (must [40] r2) fun _ r3 => andThen (paramsF k true [] r3) fun ps r4 => andThen (blockF k 0 r4) fun b r5 => okP (⟨n, headAt t, ps, b⟩ : Fn) r5) (rel2 := RF) fun t' _ _ _ => Sm.bind (name_sm h3) (G := fun _ n r2 => andThen (must [40] r2) fun _ r3 => andThen (paramsF k true [] r3) fun ps r4 => andThen (blockF k 0 r4) fun b r5 => okP (⟨n, headAt t', ps, b⟩ : Fn) r5) fun _ n' _ hn => Sm.bind (must_sm h5) (G := fun _ _ r3 => andThen (paramsF k true [] r3) fun ps r4 => andThen (blockF k 0 r4) fun b r5 => okP (⟨n', headAt t', ps, b⟩ : Fn) r5) fun _ _ _ _ => Sm.bind (params_sm f true [] t3 h7 k hk1) (G := fun _ ps r4 => andThen (blockF k 0 r4) fun b r5 => okP (⟨n', headAt t', ps, b⟩ : Fn) r5) fun _ ps' _ hp => ((locS f).block h9 k hk1).map (A := fun _ b => (⟨n', headAt t', ps', b⟩ : Fn)) fun _ b' _ hb => ?_).congr fun t ht => ?_
    · unfold RF RSs at *
      simp only [stripF, hn, hp, hb]
    · simp only [functionF]
theorem program_sm : (f : Nat) → (l : List Fn) → (ts : List Tok) → {l' : List Fn} → {r : List Tok} → programF f l ts = some (.ok (l', r)) → ∃ k c, l' = l ++ k ∧ ts = c ++ r ∧ headKind r = 4 ∧ ∀ h c' R acc, f ≤ h → c'.map key = c.map key → acc.length ≤ 12 →
    ∃ k', k'.map stripF = k.map stripF ∧ (acc.length + k.length ≤ 12 → ∀ y, programF h (acc ++ k') R = some y → programF (h + k.length) acc (c' ++ R) = some y) ∧ (12 < acc.length + k.length → ∃ p, programF (h + k.length) acc (c' ++ R) = some (.error (4, p)))
  | 0, _, _, l', r, h => by simp [programF] at h
  | f + 1, l, ts, l', r, h => by
    simp only [programF] at h
    split at h
    · rename_i h4
      obtain ⟨rfl, rfl⟩ := okP_ok h
      refine ⟨[], [], by simp, rfl, h4, fun h c' R acc hh hc ha => ⟨[], rfl, fun _ y hy => ?_, fun f => by simp at f; omega⟩⟩
      have : c' = [] := by cases c' with | nil => rfl | cons _ _ => simp at hc
      subst this
      rw [List.append_nil] at hy
      exact hy
    · rename_i h4
      split at h
      · exact (failP_ok h).elim
      · rename_i hn
        obtain ⟨x, t, h1, h2⟩ := andThen_ok h
        obtain ⟨k2, c2, e1, e2, e3, ih⟩ := program_sm f _ _ h2
        obtain ⟨c1, e4, n1, _⟩ := function_sm h1 (Nat.le_refl _)
        refine ⟨x :: k2, c1 ++ c2, by rw [e1]; simp, by rw [e4, e2, List.append_assoc], e3, fun g c' R acc hh hc ha => ?_⟩
        rw [List.map_append] at hc
        obtain ⟨d1, d2, rfl, hd1, hd2⟩ := List.map_eq_append_iff.1 hc
        have hkd : ¬ headKind (d1 ++ d2 ++ R) = 4 := by
          rw [List.append_assoc, hk_kind (hk_app (r' := d2 ++ R) (r := t) hd1 (Or.inl (n1 rfl))), ← e4]
          exact h4
        by_cases h12 : acc.length = 12
        · refine ⟨x :: k2, rfl, fun f => by simp at f; omega, fun _ => ?_⟩
          refine ⟨headAt (d1 ++ d2 ++ R), ?_⟩
          show programF ((g + k2.length) + 1) acc _ = _
          simp only [programF]
          rw [if_neg hkd, if_pos h12]
          rfl
        · obtain ⟨c3, e5, n3, k3⟩ := function_sm h1 (g := g + k2.length) (by omega)
          have h3 : c3 = c1 := List.append_cancel_right (e5.symm.trans e4)
          subst h3
          obtain ⟨x', hx', hr'⟩ := k3 d1 (d2 ++ R) hd1 (fun f => nomatch f)
          obtain ⟨k2', s1, s2, s3⟩ := ih g d2 R (acc ++ [x']) (by omega) hd2 (by simp; omega)
          have step : programF (g + (x :: k2).length) acc (d1 ++ d2 ++ R) = programF (g + k2.length) (acc ++ [x']) (d2 ++ R) := by
            show programF ((g + k2.length) + 1) acc _ = _
            simp only [programF]
            rw [if_neg hkd, if_neg h12, List.append_assoc, hx']
            rfl
          refine ⟨x' :: k2', by simp only [List.map_cons, s1]; rw [show stripF x' = stripF x from hr'], fun hl y hy => ?_, fun hl => ?_⟩
          · rw [step]
            exact s2 (by simp at hl ⊢; omega) y (by simpa using hy)
          · rw [step]
            exact s3 (by simp at hl ⊢; omega)
theorem prefix_app (u : List UInt8) : (m l : List UInt8) → (∀ c ∈ m, c ≠ 10) → m.isPrefixOf (l ++ 10 :: u) = m.isPrefixOf l
  | [], l, _ => by cases l <;> rfl
  | a :: r, [], h => by
    have := h a List.mem_cons_self
    simp [List.isPrefixOf, this]
  | a :: r, c :: l, h => by
    simp only [List.cons_append, List.isPrefixOf]
    rw [prefix_app u r l (fun c hc => h c (List.mem_cons_of_mem _ hc))]
theorem takeWhile_app {p : UInt8 → Bool} (hp : p 10 = false) (u : List UInt8) : (l : List UInt8) → (l ++ 10 :: u).takeWhile p = l.takeWhile p
  | [] => by simp [List.takeWhile_cons, hp]
  | c :: r => by simp only [List.cons_append, List.takeWhile_cons, takeWhile_app hp u r]
theorem dropWhile_app {p : UInt8 → Bool} (hp : p 10 = false) (u : List UInt8) : (l : List UInt8) → (l ++ 10 :: u).dropWhile p = l.dropWhile p ++ 10 :: u
  | [] => by simp [List.dropWhile_cons, hp]
  | c :: r => by
    simp only [List.cons_append, List.dropWhile_cons, dropWhile_app hp u r]
    split <;> rfl
theorem find_congr {α : Type} {p q : α → Bool} : (l : List α) → (∀ x ∈ l, p x = q x) → l.find? p = l.find? q
  | [], _ => rfl
  | a :: r, h => by
    rw [List.find?_cons, List.find?_cons, h a List.mem_cons_self, find_congr r (fun x hx => h x (List.mem_cons_of_mem _ hx))]
theorem next_app (c : UInt8) (r u : List UInt8) : nextP (c :: r ++ 10 :: u) = nextP (c :: r) := by
  have h := find_congr (p := fun (m : List UInt8) => m.isPrefixOf (c :: r ++ 10 :: u)) (q := fun m => m.isPrefixOf (c :: r)) markList (fun m hm => prefix_app u m (c :: r) (by revert m; decide))
  have h1 := takeWhile_app (p := fun x => letterB x || digitB x) (by decide) u (c :: r)
  have h2 := takeWhile_app (p := digitB) (by decide) u (c :: r)
  rw [List.cons_append] at h h1 h2 ⊢
  simp only [nextP]
  rw [h, h1, h2]
theorem next_fits (l : List UInt8) : (nextP l).2 ≤ l.length := by
  cases l with
  | nil => exact Nat.le_refl _
  | cons c r =>
    have tw : ∀ (p : UInt8 → Bool) (l : List UInt8), (l.takeWhile p).length ≤ l.length := fun p l => (List.takeWhile_sublist p).length_le
    simp only [nextP]
    split
    · exact tw _ _
    · split
      · exact tw _ _
      · cases hf : markList.find? (fun (m : List UInt8) => m.isPrefixOf (c :: r)) with
        | none => exact Nat.zero_le _
        | some m =>
          have h1 : m.isPrefixOf (c :: r) = true := List.find?_some (p := fun (m : List UInt8) => m.isPrefixOf (c :: r)) hf
          rw [List.isPrefixOf_iff_prefix] at h1
          exact h1.length_le
theorem next_kind (l : List UInt8) : (nextP l).1 ≠ 4 := by
  unfold nextP
  split
  · simp
  · split
    · simp
    · split
      · simp
      · split <;> simp
/-- What stands ahead is lexed as it is lexed alone. -/
theorem lex_app (u : List UInt8) (K : List (Int × List UInt8)) : (f : Nat) → (l : List UInt8) → (p n : Nat) → (ts : List Tok) → lexF f l p n = some (.ok ts) → ∃ T e, ts = T ++ [e] ∧ e.kind = 4 ∧ (∀ t ∈ T, t.kind ≠ 4) ∧ T.length ≤ l.length ∧ ∀ n', n' + T.length ≤ 1500 → (∀ p', ∃ g y, lexF g (10 :: u) p' (n' + T.length) = some (.ok y) ∧ y.map key = K) → ∀ p', ∃ g y, lexF g (l ++ 10 :: u) p' n' = some (.ok y) ∧ y.map key = T.map key ++ K
  | 0, l, p, n, ts, h => by simp [lexF] at h
  | f + 1, [], p, n, ts, h => by
    simp only [lexF, Option.some.injEq, Except.ok.injEq] at h
    subst h
    exact ⟨[], _, rfl, rfl, (fun _ f => nomatch f), Nat.le_refl _, fun n' _ hu p' => hu p'⟩
  | f + 1, c :: r, p, n, ts, h => by
    simp only [lexF] at h
    split at h
    · rename_i hb
      obtain ⟨T, e, h1, h2, h3, h4, h5⟩ := lex_app u K f r _ _ _ h
      refine ⟨T, e, h1, h2, h3, by simp; omega, fun n' hn hu p' => ?_⟩
      obtain ⟨g, y, g1, g2⟩ := h5 n' hn hu (p' + 1)
      refine ⟨g + 1, y, ?_, g2⟩
      rw [List.cons_append]
      simp only [lexF]
      rw [if_pos hb]
      exact g1
    · rename_i hb
      split at h
      · rename_i hc
        obtain ⟨T, e, h1, h2, h3, h4, h5⟩ := lex_app u K f _ _ _ _ h
        refine ⟨T, e, h1, h2, h3, Nat.le_trans h4 (dropWhile_le _ _), fun n' hn hu p' => ?_⟩
        obtain ⟨g, y, g1, g2⟩ := h5 n' hn hu (p' + ((c :: r ++ 10 :: u).takeWhile fun x => x.toNat != 10).length)
        refine ⟨g + 1, y, ?_, g2⟩
        rw [← dropWhile_app (by decide), List.cons_append] at g1
        rw [List.cons_append]
        simp only [lexF]
        rw [if_neg hb, if_pos hc]
        exact g1
      · rename_i hc
        split at h
        · cases h
        · rename_i h0
          split at h
          · cases h
          · rename_i h15
            split at h
            · rename_i t ht
              cases h
              obtain ⟨T, e, h1, h2, h3, h4, h5⟩ := lex_app u K f _ _ _ _ ht
              have hf := next_fits (c :: r)
              refine ⟨⟨(nextP (c :: r)).1, (c :: r).take (nextP (c :: r)).2, p⟩ :: T, e, by rw [h1]; rfl, h2, ?_, ?_, fun n' hn hu p' => ?_⟩
              · intro t ht
                rcases List.mem_cons.1 ht with rfl | ht
                · exact next_kind _
                · exact h3 t ht
              · simp only [List.length_cons, List.length_drop] at h4 hf ⊢
                omega
              · simp only [List.length_cons] at hn
                obtain ⟨g, y, g1, g2⟩ := h5 (n' + 1) (by omega) (by
                  intro q
                  obtain ⟨g, y, g1, g2⟩ := hu q
                  refine ⟨g, y, ?_, g2⟩
                  rw [← g1]
                  congr 1
                  simp only [List.length_cons]
                  omega) (p' + (nextP (c :: r)).2)
                refine ⟨g + 1, ⟨(nextP (c :: r)).1, (c :: r).take (nextP (c :: r)).2, p'⟩ :: y, ?_, by simp only [List.map_cons, g2]; rfl⟩
                have hna := next_app c r u
                have e1 : (c :: r ++ 10 :: u).drop (nextP (c :: r)).2 = (c :: r).drop (nextP (c :: r)).2 ++ 10 :: u := List.drop_append_of_le_length hf
                have e2 : (c :: r ++ 10 :: u).take (nextP (c :: r)).2 = (c :: r).take (nextP (c :: r)).2 := List.take_append_of_le_length hf
                rw [List.cons_append] at hna e1 e2 ⊢
                simp only [lexF]
                rw [if_neg hb, if_neg hc, hna, if_neg h0, if_neg (by omega), e1, g1, e2]
            · rename_i hx
              exact absurd h (hx ts)
/-- A text is lexed alike from other places on. -/
theorem lex_shift : (f : Nat) → (l : List UInt8) → (p n : Nat) → (ts : List Tok) → lexF f l p n = some (.ok ts) → ∀ p' n', n' + ts.length ≤ 1501 → ∃ y, lexF f l p' n' = some (.ok y) ∧ y.map key = ts.map key
  | 0, l, p, n, ts, h => by simp [lexF] at h
  | f + 1, [], p, n, ts, h => by
    simp only [lexF, Option.some.injEq, Except.ok.injEq] at h
    subst h
    exact fun p' n' _ => ⟨_, rfl, rfl⟩
  | f + 1, c :: r, p, n, ts, h => by
    intro p' n' hn
    simp only [lexF] at h ⊢
    split at h
    · rename_i hb
      rw [if_pos hb]
      exact lex_shift f _ _ _ _ h _ _ hn
    · rename_i hb
      rw [if_neg hb]
      split at h
      · rename_i hc
        rw [if_pos hc]
        exact lex_shift f _ _ _ _ h _ _ hn
      · rename_i hc
        rw [if_neg hc]
        split at h
        · cases h
        · rename_i h0
          rw [if_neg h0]
          split at h
          · cases h
          · split at h
            · rename_i t ht
              cases h
              simp only [List.length_cons] at hn
              obtain ⟨y, y1, y2⟩ := lex_shift f _ _ _ _ ht (p' + (nextP (c :: r)).2) (n' + 1) (by omega)
              have hne : t ≠ [] := by
                rintro rfl
                obtain ⟨T, e, h1, _⟩ := lex_app [] [] f _ _ _ _ ht
                simp at h1
              have : 1 ≤ t.length := by cases t with | nil => exact absurd rfl hne | cons _ _ => simp
              rw [if_neg (by omega), y1]
              exact ⟨_, rfl, by simp only [List.map_cons, y2]; rfl⟩
            · rename_i hx
              exact absurd h (hx ts)
/-- What the whole text was read from. -/
theorem read_parts {s : List UInt8} {a : List Fn} (h : ReadTo s (.ok a)) : ∃ f fp T e, lexF f s 0 0 = some (.ok (T ++ [e])) ∧ programF fp [] (T ++ [e]) = some (.ok (a, [e])) ∧ e.kind = 4 ∧ T.length ≤ s.length ∧ a.length ≤ 12 := by
  rcases h with ⟨f, n, x, h1, h2⟩ | ⟨f, fp, ts, y, h1, h2, h3⟩
  · cases h2
  · cases y with
    | error e => cases h3
    | ok p =>
      obtain ⟨l', r⟩ := p
      cases h3
      obtain ⟨T, e, e1, e2, e3, e4, _⟩ := lex_app [] [] f s 0 0 ts h1
      obtain ⟨a1, a2⟩ := lex_gives f s 0 0 ts (by omega) h1
      obtain ⟨b1, b2, b3, b4, b5⟩ := program_made fp [] ts a1 (fun _ h => nomatch h) (by simp) h2
      obtain ⟨k, c, c1, c2, c3, _⟩ := program_sm fp [] ts h2
      have hr : r = [e] := by
        obtain ⟨q, hq⟩ := b5.2
        cases r with
        | nil => simp at hq
        | cons x r' =>
          rw [e1] at c2
          rcases List.append_eq_append_iff.1 c2 with ⟨m, m1, m2⟩ | ⟨m, m1, m2⟩
          · cases m with
            | nil => simpa using m2.symm
            | cons _ _ => simp at m2
          · cases m with
            | nil => simpa using m2
            | cons y m' =>
              simp only [List.cons_append, List.cons.injEq] at m2
              exact absurd (by rw [← m2.1]; exact c3) (e3 y (by rw [m1]; simp))
      subst hr
      rw [e1] at h1 h2
      exact ⟨f, fp, T, e, h1, h2, e2, e4, b2⟩
/-- One text behind the other. -/
theorem read_joins {s u : List UInt8} {a b : List Fn} (hs : ReadTo s (.ok a)) (hu : ReadTo u (.ok b)) (hl : s.length + u.length ≤ 1400) :
    (a.length + b.length ≤ 12 → ∃ c, ReadTo (s ++ 10 :: u) (.ok c) ∧ printB c = printB a ++ printB b ∧ c.length = a.length + b.length) ∧ (12 < a.length + b.length → ∃ p, ReadTo (s ++ 10 :: u) (.error (4, p))) := by
  obtain ⟨f1, p1, T1, e1, l1, r1, k1, n1, m1⟩ := read_parts hs
  obtain ⟨f2, p2, T2, e2, l2, r2, k2, n2, m2⟩ := read_parts hu
  obtain ⟨T1', e1', h1, _, _, h4, h5⟩ := lex_app u ((T2 ++ [e2]).map key) f1 s 0 0 _ l1
  obtain ⟨hT, _⟩ : T1' = T1 ∧ e1' = e1 := by
    have := List.append_inj' h1.symm rfl
    exact ⟨this.1, by simpa using this.2⟩
  subst hT
  obtain ⟨g, ts, g1, g2⟩ := h5 0 (by omega) (by
    intro p'
    obtain ⟨y, y1, y2⟩ := lex_shift f2 u 0 0 _ l2 (p' + 1) (0 + T1'.length) (by simp only [List.length_append, List.length_singleton]; omega)
    refine ⟨f2 + 1, y, ?_, y2⟩
    simp only [lexF]
    rw [if_pos (by decide)]
    exact y1) 0
  obtain ⟨A, B, rfl, hA, hB⟩ := List.map_eq_append_iff.1 g2
  rw [List.map_append] at hB
  obtain ⟨B1, E, rfl, hB1, hE⟩ := List.map_eq_append_iff.1 hB
  have hE4 : headKind E = 4 := by
    cases E with
    | nil => rfl
    | cons x r =>
      simp only [List.map_cons, List.map_nil, List.cons.injEq] at hE
      have : x.kind = e2.kind := congrArg Prod.fst hE.1
      show x.kind = 4
      rw [this, k2]
  obtain ⟨ka, ca, a1, a2, _, a4⟩ := program_sm p1 [] _ r1
  obtain ⟨kb, cb, b1, b2, _, b4⟩ := program_sm p2 [] _ r2
  simp only [List.nil_append] at a1 b1
  subst a1 b1
  have ha2 : T1' = ca := List.append_cancel_right a2
  have hb2 : T2 = cb := List.append_cancel_right b2
  subst ha2 hb2
  obtain ⟨ka', s1, s2, _⟩ := a4 (p1 + p2 + 1 + b.length) A (B1 ++ E) [] (by omega) hA (by simp)
  have hka : ka'.length = a.length := by have := congrArg List.length s1; simpa using this
  obtain ⟨kb', t1, t2, t3⟩ := b4 (p1 + p2 + 1) B1 E ka' (by omega) hB1 (by omega)
  have s2' := s2 (by simp; omega)
  simp only [List.nil_append] at s2'
  refine ⟨fun hn => ?_, fun hn => ?_⟩
  · have q : programF (p1 + p2 + 1) (ka' ++ kb') E = some (.ok (ka' ++ kb', E)) := by
      simp only [programF]
      rw [if_pos hE4]
      rfl
    have q2 := s2' _ (t2 (by omega) _ q)
    refine ⟨ka' ++ kb', Or.inr ⟨g, _, _, _, g1, q2, rfl⟩, ?_, by simp only [List.length_append]; have := congrArg List.length t1; simp at this; omega⟩
    have h := print_strip (l := a ++ b) (l' := ka' ++ kb') (by rw [List.map_append, List.map_append, s1, t1])
    rw [h]
    unfold printB
    rw [List.map_append, List.flatten_append]
  · obtain ⟨p, hp⟩ := t3 (by omega)
    exact ⟨p, Or.inr ⟨g, _, _, _, g1, s2' _ hp, rfl⟩⟩
end Go.Proofs.YtinbahmpifokaaaDoor.TreeP

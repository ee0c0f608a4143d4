/- Fewer steps end as more: one step held to another, plainly. No program in sight. No conditions. The passes that leave steps out keep how steps end, plainly. No program in sight. No conditions. What nobody needs, left out, keeps how steps end, plainly. No program in sight. No conditions. What is known ahead keeps how steps end, plainly. No program in sight. No conditions. Fold, plainly: fewer steps do the same; what is known is not reckoned. No program in sight. No conditions. -/
import Derived.Test.YtoajcbfejplfbaaDoorMidMore
import Derived.Test.YtoajcbfejplfbaaDoorFoldReP
namespace Go.Proofs.YtoajcbfejplfbaaDoor.MidP
open Go.RowKit Go.Proofs.YtoajcbfejplfbaaDoor.TreeP
set_option linter.unusedVariables false
set_option linter.unusedSimpArgs false
/-- What a step does: it goes on, it tells, it stops, it calls. -/
inductive Act where
  | go (l : List Stp) (v : Pl) (s : RS)
  | ret (n : Int) (s : RS)
  | stop (w : Int) (s : RS)
  | call (g : List UInt8) (vs : List V) (dst : Int) (l : List Stp)
def jumpTo (F : Fm) (l : Int) : List Stp := F.steps.drop (atP F l + 1)
/-- What a step that goes on comes to. -/
def actS (r : List Stp) : RM Pl → Act
  | some (.ok v, t) => .go r v t
  | some (.error (.stop w), t) => .stop w t
  | some (.error (.ret n), t) => .stop 0 t
  | none => .stop 0 ⟨[], 0, 0, [], []⟩
def actL (F : Fm) (v : Pl) (x : Stp) (r : List Stp) (s : RS) : Act :=
  if x.code = 4 then .go (jumpTo F x.label) v s
  else if x.code = 5 then (if (v.get x.a).n = 0 then .go (jumpTo F x.label) v s else .go r v s)
  else if x.code = 7 then .call x.name (x.args.map v.get) x.dst r
  else if x.code = 8 then .ret (v.get x.a).n s
  else actS r (stepM v x s)
/-- What follows behind what a step does. -/
def nextL (k : RS → Pl → List Stp → RM Int) (c : RS → List UInt8 → List V → RM Int) (v : Pl) (s : RS) : Act → RM Int
  | .go l v2 s => k s v2 l
  | .ret n s => okR n s
  | .stop w s => stopR w s
  | .call g vs d l => bindR (c s g vs) fun n s => k s (v.put d (numV n)) l
/-- A function's steps, by what is left of them. -/
def goL (L : List Fm) : Nat → RS → Fm → Pl → List Stp → RM Int
  | 0, _, _, _, _ => none
  | _ + 1, s, _, _, [] => okR 0 s
  | f + 1, s, F, v, x :: r => bindR (stepR s) fun _ s => nextL (fun s v l => goL L f s F v l) (callM L f) v s (actL F v x r s)
theorem stepM_form (v : Pl) (x : Stp) (s : RS) : (∃ v2 t, stepM v x s = some (.ok v2, t)) ∨ (∃ w t, stepM v x s = some (.error (.stop w), t)) := by
  obtain ⟨y, h⟩ : ∃ y, stepM v x s = y := ⟨_, rfl⟩
  rw [h]
  unfold stepM at h
  split at h
  · subst h; exact Or.inl ⟨_, _, rfl⟩
  split at h
  · subst h; exact Or.inl ⟨_, _, rfl⟩
  split at h
  · split at h
    · subst h; exact Or.inr ⟨_, _, rfl⟩
    · subst h; exact Or.inl ⟨_, _, rfl⟩
  split at h
  · split at h
    · subst h; exact Or.inr ⟨_, _, rfl⟩
    · subst h; exact Or.inl ⟨_, _, rfl⟩
  split at h
  · subst h; exact Or.inl ⟨_, _, rfl⟩
  split at h
  · unfold placeR at h
    split at h
    · subst h; exact Or.inr ⟨_, _, rfl⟩
    · subst h; exact Or.inl ⟨_, _, rfl⟩
  split at h
  · unfold placeR at h
    split at h
    · subst h; exact Or.inr ⟨_, _, rfl⟩
    · subst h; exact Or.inl ⟨_, _, rfl⟩
  split at h
  · split at h
    · subst h; exact Or.inr ⟨_, _, rfl⟩
    · subst h; exact Or.inl ⟨_, _, rfl⟩
  split at h
  · split at h
    · subst h; exact Or.inl ⟨_, _, rfl⟩
    · subst h; exact Or.inl ⟨_, _, rfl⟩
  · subst h; exact Or.inl ⟨_, _, rfl⟩
theorem drop_succ {l : List Stp} {i : Nat} {x : Stp} {r : List Stp} (h : l.drop i = x :: r) : l[i]? = some x ∧ l.drop (i + 1) = r := by
  have h1 : i < l.length := by
    apply Decidable.byContradiction
    intro hn
    rw [List.drop_eq_nil_of_le (by omega)] at h
    cases h
  rw [List.drop_eq_getElem_cons h1] at h
  injection h with h2 h3
  exact ⟨by rw [List.getElem?_eq_getElem h1, h2], h3⟩
theorem goL_eq (L : List Fm) : ∀ f s F v i, goM L f s F v i = goL L f s F v (F.steps.drop i) := by
  intro f
  induction f with
  | zero => intro s F v i; rw [goM, goL]
  | succ f ih =>
    intro s F v i
    rw [goM]
    cases hd : F.steps.drop i with
    | nil =>
      rw [goL]
      have : F.steps[i]? = none := by
        rw [List.getElem?_eq_none_iff]
        exact List.drop_eq_nil_iff.1 hd
      rw [this]
    | cons x r =>
      obtain ⟨h1, h2⟩ := drop_succ hd
      rw [goL, h1]
      simp only
      congr 1
      funext _ t
      unfold actL nextL
      by_cases e4 : x.code = 4
      · simp only [if_pos e4]; exact ih _ _ _ _
      simp only [if_neg e4]
      by_cases e5 : x.code = 5
      · simp only [if_pos e5]
        by_cases e0 : (v.get x.a).n = 0
        · simp only [if_pos e0]; exact ih _ _ _ _
        · simp only [if_neg e0]; rw [ih, h2]
      simp only [if_neg e5]
      by_cases e7 : x.code = 7
      · simp only [if_pos e7]
        congr 1
        funext n t2
        rw [ih, h2]
      simp only [if_neg e7]
      by_cases e8 : x.code = 8
      · simp only [if_pos e8]
      simp only [if_neg e8]
      rcases stepM_form v x t with ⟨v2, t2, h⟩ | ⟨w, t2, h⟩
      · rw [h]
        simp only [bindR, actS]
        rw [ih, h2]
      · rw [h]; rfl
/-! More rounds, more fuel. -/
theorem leM {L : List Fm} {f g : Nat} (h : f ≤ g) : (∀ s F v i, Le (goM L f s F v i) (goM L g s F v i)) ∧ (∀ s k vs, Le (callM L f s k vs) (callM L g s k vs)) := by
  obtain ⟨k, rfl⟩ := Nat.exists_eq_add_of_le h
  clear h
  induction k with
  | zero => exact ⟨fun _ _ _ _ => Le.refl _, fun _ _ _ => Le.refl _⟩
  | succ k ih =>
    refine ⟨fun s F v i y hy => (leM_all L (f + k)).1 _ _ _ _ y (ih.1 _ _ _ _ y hy), fun s g vs y hy => (leM_all L (f + k)).2 _ _ _ y (ih.2 _ _ _ y hy)⟩
/-- The same, but for more fuel. -/
def Lk (t t' : RS) : Prop := ∃ d, Like d True t t'
theorem Lk.refl (t : RS) : Lk t t := ⟨0, rfl, rfl, rfl, rfl, fun _ => rfl⟩
theorem Lk.trans {a b c : RS} (h : Lk a b) (k : Lk b c) : Lk a c := by
  obtain ⟨d, h1, h2, h3, h4, h5⟩ := h
  obtain ⟨e, k1, k2, k3, k4, k5⟩ := k
  exact ⟨d + e, by rw [k1, h1], by rw [k2, h2], by rw [k3, h3], by rw [k4, h4]; omega, fun _ => by rw [k5 trivial, h5 trivial]⟩
theorem suffix_drop {l m : List Stp} (h : l <:+ m) : ∃ i, l = m.drop i := by
  obtain ⟨p, rfl⟩ := h
  exact ⟨p.length, by simp⟩
theorem goL_more {L : List Fm} {f : Nat} {s s' : RS} {F : Fm} {v : Pl} {l : List Stp} {r : Except Sig Int} {t : RS} (hl : l <:+ F.steps) (h : goL L f s F v l = some (r, t)) (hr : r ≠ .error (.stop 6)) (hs : Lk s s') : ∃ t', goL L f s' F v l = some (r, t') ∧ Lk t t' := by
  obtain ⟨i, rfl⟩ := suffix_drop hl
  obtain ⟨d, hs⟩ := hs
  rw [← goL_eq] at h ⊢
  rcases (moreM_all (p := True) trivial L f).1 s s' F v i hs _ h with ⟨_, h1, _⟩ | ⟨t', h1, h2⟩
  · exact absurd h1 hr
  · exact ⟨t', h1, d, h2⟩
theorem goL_le {L : List Fm} {f g : Nat} (h : f ≤ g) {s : RS} {F : Fm} {v : Pl} {l : List Stp} {y : Except Sig Int × RS} (hl : l <:+ F.steps) (hy : goL L f s F v l = some y) : goL L g s F v l = some y := by
  obtain ⟨i, rfl⟩ := suffix_drop hl
  rw [← goL_eq] at hy ⊢
  exact (leM h).1 _ _ _ _ _ hy
theorem callM_more {L : List Fm} {f : Nat} {s s' : RS} {g : List UInt8} {vs : List V} {r : Except Sig Int} {t : RS} (h : callM L f s g vs = some (r, t)) (hr : r ≠ .error (.stop 6)) (hs : Lk s s') : ∃ t', callM L f s' g vs = some (r, t') ∧ Lk t t' := by
  obtain ⟨d, hs⟩ := hs
  rcases (moreM_all (p := True) trivial L f).2 s s' g vs hs _ h with ⟨_, h1, _⟩ | ⟨t', h1, h2⟩
  · exact absurd h1 hr
  · exact ⟨t', h1, d, h2⟩
/-! Of which type what is there is. -/
def N64 (a : Int) : Prop := -9223372036854775808 ≤ a ∧ a ≤ 9223372036854775807
structure TyS (s : RS) : Prop where
  arrs : ∀ a ∈ s.arrs, a.length ≤ 40 ∧ ∀ x ∈ a, N64 x
  inp : ∀ x ∈ s.inp, N64 x
structure TyP (F : Fm) (v : Pl) : Prop where
  len : v.length = F.types.length
  num : ∀ p, kindP F p = 1 → (v.get p).arr = none ∧ N64 (v.get p).n
theorem n64_wrap (a : Int) : N64 (wrap64 a) := by
  unfold N64 wrap64
  omega
theorem kind_in {F : Fm} {p : Int} (h : 0 < kindP F p) : 0 ≤ p ∧ p.toNat < F.types.length := by
  unfold kindP at h
  split at h
  · omega
  · omega
theorem get_put {v : Pl} {p q : Int} {x : V} (hp : 0 ≤ p ∧ p.toNat < v.length) (hq : 0 ≤ q) : (v.put p x).get q = if q = p then x else v.get q := by
  unfold Pl.put Pl.get
  rw [List.getD_eq_getElem?_getD, List.getD_eq_getElem?_getD, List.getElem?_set]
  by_cases h : q = p
  · subst h
    rw [if_pos rfl, if_pos rfl, if_pos hp.2]
    rfl
  · rw [if_neg h, if_neg (by omega)]
theorem plput_len (v : Pl) (p : Int) (x : V) : (v.put p x).length = v.length := by
  unfold Pl.put
  rw [List.length_set]
theorem TyP.put {F : Fm} {v : Pl} (h : TyP F v) {p : Int} {x : V} (hp : 0 < kindP F p) (hx : kindP F p = 1 → x.arr = none ∧ N64 x.n) : TyP F (v.put p x) := by
  refine ⟨by rw [plput_len]; exact h.len, fun q hq => ?_⟩
  have h1 := kind_in hp
  have h2 := kind_in (F := F) (p := q) (by omega)
  rw [get_put (by rw [h.len]; exact h1) h2.1]
  split
  · rename_i e
    rw [e] at hq
    exact hx hq
  · exact h.num q hq
theorem arr_ty {s : RS} (h : TyS s) (v : V) : (arrOf s v).length ≤ 40 ∧ ∀ x ∈ arrOf s v, N64 x := by
  unfold arrOf
  split
  · rename_i i _
    rw [List.getD_eq_getElem?_getD]
    cases hg : s.arrs[i]? with
    | none => simp
    | some a => exact h.arrs a (List.mem_of_getElem? hg)
  · simp
theorem putArr_ty {s : RS} (h : TyS s) (v : V) (i x : Int) (hx : N64 x) : TyS (putArr s v i x) := by
  unfold putArr
  split
  · rename_i k _
    refine ⟨fun a ha => ?_, h.inp⟩
    simp only at ha
    rcases List.mem_or_eq_of_mem_set ha with ha | rfl
    · exact h.arrs a ha
    · have h0 := arr_ty h ⟨0, some k⟩
      unfold arrOf at h0
      simp only at h0
      refine ⟨by rw [List.length_set]; exact h0.1, fun y hy => ?_⟩
      rcases List.mem_or_eq_of_mem_set hy with hy | rfl
      · exact h0.2 y hy
      · exact hx
  · exact h
/-! What right says of a step's places. -/
structure RightP (F : Fm) (x : Stp) : Prop where
  dst : (x.code = 1 ∨ x.code = 3 ∨ x.code = 7 ∨ x.code = 10 ∨ x.code = 11 ∨ x.code = 14) → kindP F x.dst = 1
  dstA : x.code = 9 → kindP F x.dst = 2
  copy : x.code = 2 → 0 < kindP F x.dst ∧ kindP F x.dst = kindP F x.a
  a : (x.code = 3 ∨ x.code = 5 ∨ x.code = 8 ∨ x.code = 9 ∨ x.code = 13) → kindP F x.a = 1
  aA : (x.code = 10 ∨ x.code = 11 ∨ x.code = 12) → kindP F x.a = 2
  b : (x.code = 3 ∨ x.code = 11 ∨ x.code = 12) → kindP F x.b = 1
  c : x.code = 12 → kindP F x.c = 1
  lab : (x.code = 4 ∨ x.code = 5) → hasLabel F x.label = true
  op : x.code = 3 → x.op ∈ opList
theorem fit_one {F : Fm} {t p : Int} (h : fitB F t p = true) (ht : 0 < t) : kindP F p = t := by
  unfold fitB at h
  simp at h
  omega
theorem right_parts {L : List Fm} {F : Fm} {x : Stp} (h : rightB L F x = true) : RightP F x ∧ (x.code = 7 → ∃ g, L.find? (fun g => g.name == x.name) = some g ∧ (x.args.length : Int) = g.params ∧ x.args.map (kindP F) = g.types.take x.args.length) ∧ 1 ≤ x.code ∧ x.code ≤ 14 := by
  unfold rightB at h
  by_cases h2 : x.code = 2
  · rw [if_pos h2] at h
    simp at h
    exact ⟨⟨by omega, by omega, fun _ => h, by omega, by omega, by omega, by omega, by omega, by omega⟩, by omega, by omega, by omega⟩
  rw [if_neg h2] at h
  by_cases h7 : x.code = 7
  · rw [if_pos h7] at h
    split at h
    · cases h
    · rename_i g hg
      simp at h
      exact ⟨⟨fun _ => h.1.2, by omega, by omega, by omega, by omega, by omega, by omega, by omega, by omega⟩, fun _ => ⟨g, hg, h.1.1, h.2⟩, by omega, by omega⟩
  rw [if_neg h7] at h
  split at h
  · cases h
  rename_i hr
  simp only [Bool.and_eq_true] at h
  obtain ⟨⟨⟨⟨⟨f0, f1⟩, f2⟩, f3⟩, hl⟩, ho⟩ := h
  have hr : 1 ≤ x.code ∧ x.code ≤ 14 := by omega
  have hl' : (x.code = 4 ∨ x.code = 5) → hasLabel F x.label = true := fun e => by
    simp only [Bool.or_eq_true, Bool.not_eq_true', Bool.or_eq_false_iff, beq_eq_false_iff_ne, ne_eq] at hl
    rcases hl with hl | hl
    · omega
    · exact hl
  have ho' : x.code = 3 → x.op ∈ opList := fun e => by
    rw [e] at ho
    simpa using ho
  refine ⟨⟨fun e => ?_, fun e => ?_, by omega, fun e => ?_, fun e => ?_, fun e => ?_, fun e => ?_, hl', ho'⟩, by omega, hr⟩
  · exact fit_one (t := 1) (by rcases e with e | e | e | e | e | e <;> first | omega | (rw [e] at f0; exact f0)) (by decide)
  · exact fit_one (t := 2) (by rw [e] at f0; exact f0) (by decide)
  · exact fit_one (t := 1) (by rcases e with e | e | e | e | e <;> (rw [e] at f1; exact f1)) (by decide)
  · exact fit_one (t := 2) (by rcases e with e | e | e <;> (rw [e] at f1; exact f1)) (by decide)
  · exact fit_one (t := 1) (by rcases e with e | e | e <;> (rw [e] at f2; exact f2)) (by decide)
  · exact fit_one (t := 1) (by rw [e] at f3; exact f3) (by decide)
theorem both_n64 {op : List UInt8} {a b : Int} (ha : N64 a) (hb : N64 b) : N64 (bothP op a b).1 := by
  have h1 : ∀ c : Bool, N64 (oneB c) := fun c => by unfold oneB N64; split <;> omega
  unfold bothP
  repeat' split
  all_goals first | exact n64_wrap _ | exact h1 _ | skip
  · unfold N64; simp
  · have h2 := Int.natAbs_tmod a b
    have h3 : (a.tmod b).natAbs ≤ a.natAbs := by rw [h2]; exact Nat.mod_le _ _
    unfold N64 at *
    rename_i hn _ _ _
    have h4 : (a.tmod b) ≠ 9223372036854775808 := by
      intro e
      by_cases hp : 0 ≤ a
      · omega
      · have h5 := Int.tmod_add_mul_tdiv a b
        have h6 : a.tmod b = -((-a).tmod b) := by rw [Int.neg_tmod]; omega
        have h7 := Int.tmod_nonneg b (show 0 ≤ -a by omega)
        omega
    omega
  · unfold N64; simp
theorem step_typed {L : List Fm} {F : Fm} {x : Stp} (hr : RightP F x) (hn : N64 x.n) {v : Pl} {s : RS} (hv : TyP F v) (hs : TyS s) {y : Except Sig Pl × RS} (h : stepM v x s = some y) : TyS y.2 ∧ ∀ v2, y.1 = .ok v2 → TyP F v2 := by
  unfold stepM at h
  have one : ∀ {p : Int}, kindP F p = 1 → 0 < kindP F p := fun h => by omega
  by_cases e : x.code = 1
  · rw [if_pos e] at h
    obtain rfl := (Option.some.inj h).symm
    exact ⟨hs, fun v2 h2 => by cases h2; exact hv.put (one (hr.dst (Or.inl e))) fun _ => ⟨rfl, hn⟩⟩
  rw [if_neg e] at h
  clear e
  by_cases e : x.code = 2
  · rw [if_pos e] at h
    obtain rfl := (Option.some.inj h).symm
    exact ⟨hs, fun v2 h2 => by cases h2; exact hv.put (hr.copy e).1 fun hk => hv.num _ (by rw [← (hr.copy e).2]; exact hk)⟩
  rw [if_neg e] at h
  clear e
  by_cases e : x.code = 3
  · rw [if_pos e] at h
    split at h
    · obtain rfl := (Option.some.inj h).symm
      exact ⟨hs, fun v2 h2 => by cases h2⟩
    · obtain rfl := (Option.some.inj h).symm
      exact ⟨hs, fun v2 h2 => by cases h2; exact hv.put (one (hr.dst (by omega))) fun _ => ⟨rfl, both_n64 (hv.num _ (hr.a (by omega))).2 (hv.num _ (hr.b (by omega))).2⟩⟩
  rw [if_neg e] at h
  clear e
  by_cases e : x.code = 9
  · rw [if_pos e] at h
    split at h
    · obtain rfl := (Option.some.inj h).symm
      exact ⟨hs, fun v2 h2 => by cases h2⟩
    · rename_i hb
      obtain rfl := (Option.some.inj h).symm
      refine ⟨⟨fun a ha => ?_, hs.inp⟩, fun v2 h2 => by cases h2; exact hv.put (by have := hr.dstA e; omega) fun hk => by have := hr.dstA e; omega⟩
      simp only [List.mem_append, List.mem_singleton] at ha
      rcases ha with ha | rfl
      · exact hs.arrs a ha
      · refine ⟨by rw [List.length_replicate]; omega, fun y hy => ?_⟩
        rw [List.eq_of_mem_replicate hy]
        unfold N64; omega
  rw [if_neg e] at h
  clear e
  by_cases e : x.code = 10
  · rw [if_pos e] at h
    obtain rfl := (Option.some.inj h).symm
    refine ⟨hs, fun v2 h2 => ?_⟩
    cases h2
    refine hv.put (one (hr.dst (by omega))) fun _ => ⟨rfl, ?_⟩
    have := (arr_ty hs (v.get x.a)).1
    show N64 ((arrOf s (v.get x.a)).length : Int)
    unfold N64; omega
  rw [if_neg e] at h
  clear e
  by_cases e : x.code = 11
  · rw [if_pos e] at h
    unfold placeR at h
    split at h
    · obtain rfl := (Option.some.inj h).symm
      exact ⟨hs, fun v2 h2 => by cases h2⟩
    · rename_i hb
      obtain rfl := (Option.some.inj h).symm
      refine ⟨hs, fun v2 h2 => ?_⟩
      cases h2
      refine hv.put (one (hr.dst (by omega))) fun _ => ⟨rfl, ?_⟩
      refine (arr_ty hs (v.get x.a)).2 _ ?_
      rw [List.getD_eq_getElem?_getD, List.getElem?_eq_getElem (by omega)]
      exact List.getElem_mem _
  rw [if_neg e] at h
  clear e
  by_cases e : x.code = 12
  · rw [if_pos e] at h
    unfold placeR at h
    split at h
    · obtain rfl := (Option.some.inj h).symm
      exact ⟨hs, fun v2 h2 => by cases h2⟩
    · obtain rfl := (Option.some.inj h).symm
      exact ⟨putArr_ty hs _ _ _ (hv.num _ (hr.c e)).2, fun v2 h2 => by cases h2; exact hv⟩
  rw [if_neg e] at h
  clear e
  by_cases e : x.code = 13
  · rw [if_pos e] at h
    split at h
    · obtain rfl := (Option.some.inj h).symm
      exact ⟨hs, fun v2 h2 => by cases h2⟩
    · obtain rfl := (Option.some.inj h).symm
      exact ⟨⟨hs.arrs, hs.inp⟩, fun v2 h2 => by cases h2; exact hv⟩
  rw [if_neg e] at h
  clear e
  by_cases e : x.code = 14
  · rw [if_pos e] at h
    split at h
    · obtain rfl := (Option.some.inj h).symm
      exact ⟨hs, fun v2 h2 => by cases h2; exact hv.put (one (hr.dst (by omega))) fun _ => ⟨rfl, by show N64 0; unfold N64; omega⟩⟩
    · rename_i n r hi
      obtain rfl := (Option.some.inj h).symm
      refine ⟨⟨hs.arrs, fun y hy => hs.inp y (by rw [hi]; exact List.mem_cons_of_mem _ hy)⟩, fun v2 h2 => by cases h2; exact hv.put (one (hr.dst (by omega))) fun _ => ⟨rfl, hs.inp n (by rw [hi]; exact List.mem_cons_self)⟩⟩
  rw [if_neg e] at h
  obtain rfl := (Option.some.inj h).symm
  exact ⟨hs, fun v2 h2 => by cases h2; exact hv⟩
/-! Right code: all its functions, all their steps. -/
structure RightF (L : List Fm) (F : Fm) : Prop where
  pars : 0 ≤ F.params ∧ F.params ≤ F.types.length
  steps : ∀ x ∈ F.steps, rightB L F x = true
  n64 : ∀ x ∈ F.steps, N64 x.n
/-- What is handed to a function is of its parameters' types. -/
def TyA (G : Fm) (vs : List V) : Prop := (vs.length : Int) = G.params ∧ ∀ (i : Nat) (y : V), vs[i]? = some y → G.types[i]? = some 1 → y.arr = none ∧ N64 y.n
theorem fill_ty {L : List Fm} {G : Fm} (hG : RightF L G) {vs : List V} (h : TyA G vs) : TyP G (fillP vs G.types.length) := by
  have hp := hG.pars
  have hl := h.1
  have hle : vs.length ≤ G.types.length := by omega
  unfold fillP
  rw [List.take_of_length_le hle]
  refine ⟨by simp; omega, fun p hk => ?_⟩
  have h1 := kind_in (F := G) (p := p) (by omega)
  unfold kindP at hk
  rw [if_neg (by omega), List.getD_eq_getElem?_getD, List.getElem?_eq_getElem h1.2] at hk
  unfold Pl.get
  rw [List.getD_eq_getElem?_getD]
  by_cases hi : p.toNat < vs.length
  · rw [List.getElem?_append_left hi, List.getElem?_eq_getElem hi]
    exact h.2 p.toNat _ (List.getElem?_eq_getElem hi) (by rw [List.getElem?_eq_getElem h1.2]; exact congrArg some hk)
  · rw [List.getElem?_append_right (by omega), List.getElem?_replicate]
    rw [if_pos (by omega)]
    exact ⟨rfl, by show N64 0; unfold N64; omega⟩
theorem args_ty {L : List Fm} {F : Fm} {x : Stp} {G : Fm} (hl : (x.args.length : Int) = G.params) (hk : x.args.map (kindP F) = G.types.take x.args.length) {v : Pl} (hv : TyP F v) : TyA G (x.args.map v.get) := by
  refine ⟨by rw [List.length_map]; exact hl, fun i y hy ht => ?_⟩
  rw [List.getElem?_map] at hy
  cases ha : x.args[i]? with
  | none => rw [ha] at hy; cases hy
  | some p =>
    rw [ha] at hy
    obtain rfl := (Option.some.inj hy).symm
    refine hv.num p ?_
    have hi : i < x.args.length := (List.getElem?_eq_some_iff.1 ha).1
    have h1 : (x.args.map (kindP F))[i]? = some (kindP F p) := by rw [List.getElem?_map, ha]; rfl
    rw [hk, List.getElem?_take_of_lt hi, ht] at h1
    exact (Option.some.inj h1).symm
theorem find_fm {L : List Fm} {g : List UInt8} {G : Fm} (h : L.find? (fun f => f.name == g) = some G) : fmGet L g = G ∧ G ∈ L := by
  unfold fmGet fmOf
  rw [h]
  exact ⟨rfl, List.mem_of_find?_eq_some h⟩
theorem call_kept {L : List Fm} (hL : ∀ F ∈ L, RightF L F) : ∀ f, (∀ s F v l, F ∈ L → l <:+ F.steps → TyS s → TyP F v → ∀ y, goL L f s F v l = some y → TyS y.2 ∧ ∀ n, y.1 = .ok n → N64 n) ∧ (∀ s g vs, TyS s → (∃ G, L.find? (fun f => f.name == g) = some G ∧ TyA G vs) → ∀ y, callM L f s g vs = some y → TyS y.2 ∧ ∀ n, y.1 = .ok n → N64 n) := by
  intro f
  induction f with
  | zero => exact ⟨(fun s F v l _ _ _ _ y hy => by rw [goL] at hy; cases hy), (fun s g vs _ _ y hy => by rw [callM] at hy; cases hy)⟩
  | succ f ih =>
    obtain ⟨i1, i2⟩ := ih
    refine ⟨fun s F v l hF hl hs hv y hy => ?_, fun s g vs hs hg y hy => ?_⟩
    · cases l with
      | nil =>
        rw [goL] at hy
        obtain rfl := (Option.some.inj hy).symm
        exact ⟨hs, fun n hn => by cases hn; unfold N64; omega⟩
      | cons x r =>
        have hxm : x ∈ F.steps := hl.subset List.mem_cons_self
        have hrs : r <:+ F.steps := List.IsSuffix.trans (List.suffix_cons x r) hl
        have hjs : ∀ k, jumpTo F k <:+ F.steps := fun k => List.drop_suffix _ _
        obtain ⟨hr, hc, -, -⟩ := right_parts ((hL F hF).steps x hxm)
        rw [goL] at hy
        unfold stepR at hy
        split at hy
        · obtain rfl := (Option.some.inj hy).symm
          exact ⟨hs, fun n hn => by cases hn⟩
        simp only [bindR, okR] at hy
        generalize hs1 : ({ s with fuel := s.fuel - 1 } : RS) = s1 at hy
        have ht1 : TyS s1 := by rw [← hs1]; exact ⟨hs.arrs, hs.inp⟩
        unfold actL nextL at hy
        by_cases e : x.code = 4
        · simp only [if_pos e] at hy; exact i1 _ _ _ _ hF (hjs _) ht1 hv y hy
        simp only [if_neg e] at hy
        clear e
        by_cases e : x.code = 5
        · simp only [if_pos e] at hy
          by_cases e0 : (v.get x.a).n = 0
          · simp only [if_pos e0] at hy; exact i1 _ _ _ _ hF (hjs _) ht1 hv y hy
          · simp only [if_neg e0] at hy; exact i1 _ _ _ _ hF hrs ht1 hv y hy
        simp only [if_neg e] at hy
        clear e
        by_cases e : x.code = 7
        · simp only [if_pos e] at hy
          obtain ⟨G, hG, hlen, hk⟩ := hc e
          have ha := args_ty (L := L) hlen hk hv
          rcases hcall : callM L f s1 x.name (x.args.map v.get) with _ | ⟨w | n, t⟩
          · rw [hcall] at hy; cases hy
          · rw [hcall] at hy
            obtain rfl := (Option.some.inj hy).symm
            exact ⟨(i2 _ _ _ ht1 ⟨G, hG, ha⟩ _ hcall).1, fun n hn => by cases hn⟩
          · rw [hcall] at hy
            have h3 := i2 _ _ _ ht1 ⟨G, hG, ha⟩ _ hcall
            exact i1 _ _ _ _ hF hrs h3.1 (hv.put (by have := hr.dst (by omega); omega) fun _ => ⟨rfl, h3.2 n rfl⟩) y hy
        simp only [if_neg e] at hy
        clear e
        by_cases e : x.code = 8
        · simp only [if_pos e] at hy
          obtain rfl := (Option.some.inj hy).symm
          exact ⟨ht1, fun n hn => by cases hn; exact (hv.num _ (hr.a (by omega))).2⟩
        simp only [if_neg e] at hy
        rcases stepM_form v x s1 with ⟨v2, t2, h⟩ | ⟨w, t2, h⟩
        · have h4 := step_typed (L := L) hr ((hL F hF).n64 x hxm) hv ht1 h
          rw [h] at hy
          exact i1 _ _ _ _ hF hrs h4.1 (h4.2 v2 rfl) y hy
        · have h4 := step_typed (L := L) hr ((hL F hF).n64 x hxm) hv ht1 h
          rw [h] at hy
          obtain rfl := (Option.some.inj hy).symm
          exact ⟨h4.1, fun n hn => by cases hn⟩
    · rw [callM] at hy
      split at hy
      · obtain rfl := (Option.some.inj hy).symm
        exact ⟨hs, fun n hn => by cases hn⟩
      obtain ⟨G, hG, ha⟩ := hg
      obtain ⟨hge, hGm⟩ := find_fm hG
      rw [hge, goL_eq] at hy
      have h3 := i1 { s with calls := s.calls + 1 } G (fillP vs G.types.length) _ hGm (List.drop_suffix 0 _) ⟨hs.arrs, hs.inp⟩ (fill_ty (hL G hGm) ha)
      rcases hb : goL L f { s with calls := s.calls + 1 } G (fillP vs G.types.length) (G.steps.drop 0) with _ | ⟨w | n, t⟩
      · rw [hb] at hy; cases hy
      · rw [hb] at hy
        obtain rfl := (Option.some.inj hy).symm
        exact ⟨(h3 _ hb).1, fun n hn => by cases hn⟩
      · rw [hb] at hy
        obtain rfl := (Option.some.inj hy).symm
        exact ⟨⟨(h3 _ hb).1.arrs, (h3 _ hb).1.inp⟩, fun n' hn => by cases hn; exact (h3 _ hb).2 n rfl⟩
/-! One step held to another. -/
inductive ActSim (R : List Stp → Pl → List Stp → Pl → Prop) (v v' : Pl) : Act → Act → Prop where
  | go {l l' : List Stp} {v2 v2' : Pl} {s : RS} : R l v2 l' v2' → ActSim R v v' (.go l v2 s) (.go l' v2' s)
  | ret (n : Int) (s : RS) : ActSim R v v' (.ret n s) (.ret n s)
  | stop (w : Int) (s : RS) : ActSim R v v' (.stop w s) (.stop w s)
  | call {g : List UInt8} {vs : List V} {d d' : Int} {l l' : List Stp} : (∀ n, R l (v.put d (numV n)) l' (v'.put d' (numV n))) → ActSim R v v' (.call g vs d l) (.call g vs d' l')
structure Sim (F F' : Fm) (R : List Stp → Pl → List Stp → Pl → Prop) : Prop where
  start : ∀ v, TyP F v → R F.steps v F'.steps v
  nil : ∀ v l' v', R [] v l' v' → l' = []
  step : ∀ x r v l' v' s, R (x :: r) v l' v' → x :: r <:+ F.steps → TyP F v → TyS s →
    (∃ l2 v2, actL F v x r s = .go l2 v2 s ∧ R l2 v2 l' v') ∨ (∃ x' r', l' = x' :: r' ∧ ActSim R v v' (actL F v x r s) (actL F' v' x' r' s))
/-- A way to write functions anew that keeps names, types and parameters. -/
structure Pass (T : Fm → Fm) : Prop where
  name : ∀ F, (T F).name = F.name
  types : ∀ F, (T F).types = F.types
  params : ∀ F, (T F).params = F.params
theorem Pass.find {T : Fm → Fm} (h : Pass T) (L : List Fm) (g : List UInt8) : (L.map T).find? (fun f => f.name == g) = (L.find? (fun f => f.name == g)).map T := by
  rw [List.find?_map]
  congr 2
  funext f
  simp [h.name]
theorem act_typed {L : List Fm} {F : Fm} (hF : RightF L F) {x : Stp} {r : List Stp} {v : Pl} {s : RS} (hl : x :: r <:+ F.steps) (hv : TyP F v) (hs : TyS s) {l2 : List Stp} {v2 : Pl} {s2 : RS} (h : actL F v x r s = .go l2 v2 s2) : l2 <:+ F.steps ∧ TyP F v2 ∧ TyS s2 := by
  have hxm : x ∈ F.steps := hl.subset List.mem_cons_self
  have hrs : r <:+ F.steps := List.IsSuffix.trans (List.suffix_cons x r) hl
  have hjs : ∀ k, jumpTo F k <:+ F.steps := fun k => List.drop_suffix _ _
  obtain ⟨hr, -, -, -⟩ := right_parts (hF.steps x hxm)
  unfold actL at h
  split at h
  · injection h with h1 h2 h3; subst h1 h2 h3; exact ⟨hjs _, hv, hs⟩
  split at h
  · split at h
    · injection h with h1 h2 h3; subst h1 h2 h3; exact ⟨hjs _, hv, hs⟩
    · injection h with h1 h2 h3; subst h1 h2 h3; exact ⟨hrs, hv, hs⟩
  split at h
  · cases h
  split at h
  · cases h
  rcases stepM_form v x s with ⟨v3, t3, h3⟩ | ⟨w, t3, h3⟩
  · rw [h3] at h
    injection h with h1 h2 h4; subst h1 h2 h4
    have h5 := step_typed (L := L) hr (hF.n64 x hxm) hv hs h3
    exact ⟨hrs, h5.2 _ rfl, h5.1⟩
  · rw [h3] at h; cases h
theorem act_suffix {F : Fm} {x : Stp} {r : List Stp} {v : Pl} {s : RS} (hl : x :: r <:+ F.steps) : (∀ l2 v2 s2, actL F v x r s = .go l2 v2 s2 → l2 <:+ F.steps) ∧ (∀ g vs d l2, actL F v x r s = .call g vs d l2 → l2 <:+ F.steps) := by
  have hrs : r <:+ F.steps := List.IsSuffix.trans (List.suffix_cons x r) hl
  have hjs : ∀ k, jumpTo F k <:+ F.steps := fun k => List.drop_suffix _ _
  refine ⟨fun l2 v2 s2 h => ?_, fun g vs d l2 h => ?_⟩
  · unfold actL at h
    split at h
    · injection h with h1 h2 h3; subst h1; exact hjs _
    split at h
    · split at h
      · injection h with h1 h2 h3; subst h1; exact hjs _
      · injection h with h1 h2 h3; subst h1; exact hrs
    split at h
    · cases h
    split at h
    · cases h
    rcases stepM_form v x s with ⟨v3, t3, h3⟩ | ⟨w, t3, h3⟩
    · rw [h3] at h
      injection h with h1 h2 h4; subst h1; exact hrs
    · rw [h3] at h; cases h
  · unfold actL at h
    split at h
    · cases h
    split at h
    · split at h <;> cases h
    split at h
    · injection h with h1 h2 h3 h4; subst h4; exact hrs
    split at h
    · cases h
    rcases stepM_form v x s with ⟨v3, t3, h3⟩ | ⟨w, t3, h3⟩
    · rw [h3] at h; cases h
    · rw [h3] at h; cases h
theorem act_call {L : List Fm} {F : Fm} (hF : RightF L F) {x : Stp} {r : List Stp} {v : Pl} {s : RS} (hl : x :: r <:+ F.steps) (hv : TyP F v) {g : List UInt8} {vs : List V} {d : Int} {l2 : List Stp} (h : actL F v x r s = .call g vs d l2) : l2 <:+ F.steps ∧ (∃ G, L.find? (fun f => f.name == g) = some G ∧ TyA G vs) ∧ ∀ n, N64 n → TyP F (v.put d (numV n)) := by
  have hxm : x ∈ F.steps := hl.subset List.mem_cons_self
  have hrs : r <:+ F.steps := List.IsSuffix.trans (List.suffix_cons x r) hl
  obtain ⟨hr, hc, -, -⟩ := right_parts (hF.steps x hxm)
  unfold actL at h
  split at h
  · cases h
  split at h
  · split at h <;> cases h
  split at h
  · rename_i e
    injection h with h1 h2 h3 h4
    subst h1 h2 h3 h4
    obtain ⟨G, hG, hlen, hk⟩ := hc e
    exact ⟨hrs, ⟨G, hG, args_ty (L := L) hlen hk hv⟩, fun n hn => hv.put (by have := hr.dst (by omega); omega) fun _ => ⟨rfl, hn⟩⟩
  split at h
  · cases h
  rcases stepM_form v x s with ⟨v3, t3, h3⟩ | ⟨w, t3, h3⟩
  · rw [h3] at h; cases h
  · rw [h3] at h; cases h
theorem sim_all {L : List Fm} {T : Fm → Fm} (hT : Pass T) (hL : ∀ F ∈ L, RightF L F) {R : Fm → List Stp → Pl → List Stp → Pl → Prop} (hR : ∀ F ∈ L, Sim F (T F) (R F)) : ∀ f,
    (∀ s F v l v' l', F ∈ L → l <:+ F.steps → l' <:+ (T F).steps → TyS s → TyP F v → R F l v l' v' → ∀ r t, goL L f s F v l = some (r, t) → r ≠ .error (.stop 6) → ∃ f' t', goL (L.map T) f' s (T F) v' l' = some (r, t') ∧ Lk t t') ∧
    (∀ s g vs, TyS s → (∃ G, L.find? (fun f => f.name == g) = some G ∧ TyA G vs) → ∀ r t, callM L f s g vs = some (r, t) → r ≠ .error (.stop 6) → ∃ f' t', callM (L.map T) f' s g vs = some (r, t') ∧ Lk t t') := by
  intro f
  induction f with
  | zero => exact ⟨(fun s F v l v' l' _ _ _ _ _ _ r t h => by rw [goL] at h; cases h), (fun s g vs _ _ r t h => by rw [callM] at h; cases h)⟩
  | succ f ih =>
    obtain ⟨i1, i2⟩ := ih
    refine ⟨fun s F v l v' l' hF hl hl' hs hv hRl r t h hr => ?_, fun s g vs hs hg r t h hr => ?_⟩
    · cases l with
      | nil =>
        rw [goL] at h
        obtain rfl := (hR F hF).nil _ _ _ hRl
        injection h with h
        injection h with h1 h2
        subst h1 h2
        exact ⟨1, s, by rw [goL]; rfl, Lk.refl _⟩
      | cons x rr =>
        rw [goL] at h
        unfold stepR at h
        split at h
        · injection h with h
          injection h with h1 h2
          exact absurd h1.symm hr
        rename_i hfu
        simp only [bindR, okR] at h
        generalize hs1 : ({ s with fuel := s.fuel - 1 } : RS) = s1 at h
        have ht1 : TyS s1 := by rw [← hs1]; exact ⟨hs.arrs, hs.inp⟩
        have hlk : Lk s1 s := ⟨1, by rw [← hs1], by rw [← hs1], by rw [← hs1], by rw [← hs1]; simp only; omega, fun _ => by rw [← hs1]⟩
        have hst : stepR s = okR () s1 := by unfold stepR; rw [if_neg hfu, hs1]
        rcases (hR F hF).step x rr v l' v' s1 hRl hl hv ht1 with ⟨l2, v2, ha, h2⟩ | ⟨x', r', rfl, ha⟩
        · obtain ⟨hl2, hv2, -⟩ := act_typed (hL F hF) hl hv ht1 ha
          rw [ha] at h
          simp only [nextL] at h
          obtain ⟨f', t', h3, h4⟩ := i1 s1 F v2 l2 v' l' hF hl2 hl' ht1 hv2 h2 r t h hr
          obtain ⟨t2, h5, h6⟩ := goL_more hl' h3 hr hlk
          exact ⟨f', t2, h5, h4.trans h6⟩
        · generalize hA : actL F v x rr s1 = A at ha h
          generalize hA' : actL (T F) v' x' r' s1 = A' at ha
          have hgo : ∀ f', goL (L.map T) (f' + 1) s (T F) v' (x' :: r') = nextL (fun s v l => goL (L.map T) f' s (T F) v l) (callM (L.map T) f') v' s1 A' := fun f' => by
            rw [goL]
            simp only [hst, okR, bindR, hA']
          cases ha with
          | go hr2 =>
            obtain ⟨hl2, hv2, hs2⟩ := act_typed (hL F hF) hl hv ht1 hA
            obtain ⟨f', t', h3, h4⟩ := i1 _ F _ _ _ _ hF hl2 ((act_suffix hl').1 _ _ _ hA') hs2 hv2 hr2 r t h hr
            exact ⟨f' + 1, t', by rw [hgo]; exact h3, h4⟩
          | ret n s2 => exact ⟨1, t, by rw [hgo]; exact h, Lk.refl _⟩
          | stop w s2 => exact ⟨1, t, by rw [hgo]; exact h, Lk.refl _⟩
          | call hr2 =>
            obtain ⟨hl2, hg, hn⟩ := act_call (hL F hF) hl hv hA
            simp only [nextL] at h
            rename_i g vs d d' l2 l2'
            rcases hc : callM L f s1 g vs with _ | ⟨w | n, t2⟩
            · rw [hc] at h; cases h
            · rw [hc] at h
              injection h with h
              injection h with h1 h2
              subst h1 h2
              obtain ⟨f', t', h3, h4⟩ := i2 s1 g vs ht1 hg (.error w) t2 hc (fun e => hr (by cases e; rfl))
              exact ⟨f' + 1, t', by rw [hgo]; simp only [nextL]; rw [h3]; rfl, h4⟩
            · rw [hc] at h
              have hk := (call_kept hL f).2 s1 g vs ht1 hg _ hc
              obtain ⟨f', t', h3, h4⟩ := i2 s1 g vs ht1 hg (.ok n) t2 hc (fun e => by cases e)
              have hsf := (act_suffix hl').2 _ _ _ _ hA'
              obtain ⟨f2, t3, h5, h6⟩ := i1 t2 F _ _ _ _ hF hl2 hsf hk.1 (hn n (hk.2 n rfl)) (hr2 n) r t h hr
              obtain ⟨t4, h7, h8⟩ := goL_more hsf h5 hr h4
              refine ⟨max f' f2 + 1, t4, ?_, h6.trans h8⟩
              rw [hgo]
              simp only [nextL]
              rw [(leM (Nat.le_max_left f' f2)).2 _ _ _ _ h3]
              exact goL_le (Nat.le_max_right f' f2) hsf h7
    · rw [callM] at h
      obtain ⟨G, hG, ha⟩ := hg
      obtain ⟨hge, hGm⟩ := find_fm hG
      have hge' : fmGet (L.map T) g = T G := by
        unfold fmGet fmOf
        rw [hT.find, hG]; rfl
      split at h
      · rename_i h40
        injection h with h
        injection h with h1 h2
        subst h1 h2
        exact ⟨1, s, by rw [callM, if_pos h40]; rfl, Lk.refl _⟩
      · rename_i h40
        rw [hge, goL_eq] at h
        have h3 := i1 { s with calls := s.calls + 1 } G (fillP vs G.types.length) (G.steps.drop 0) (fillP vs G.types.length) ((T G).steps.drop 0) hGm (List.drop_suffix 0 _) (List.drop_suffix 0 _) ⟨hs.arrs, hs.inp⟩ (fill_ty (hL G hGm) ha) (by rw [List.drop_zero, List.drop_zero]; exact (hR G hGm).start _ (fill_ty (hL G hGm) ha))
        have hgo : ∀ f', callM (L.map T) (f' + 1) s g vs = bindR (goL (L.map T) f' { s with calls := s.calls + 1 } (T G) (fillP vs G.types.length) ((T G).steps.drop 0)) fun n t => okR n { t with calls := t.calls - 1 } := fun f' => by
          rw [callM, if_neg h40, hge', hT.types, goL_eq]
        rcases hb : goL L f { s with calls := s.calls + 1 } G (fillP vs G.types.length) (G.steps.drop 0) with _ | ⟨w | n, t2⟩
        · rw [hb] at h; cases h
        · rw [hb] at h
          injection h with h
          injection h with h1 h2
          subst h1 h2
          obtain ⟨f', t', h5, h6⟩ := h3 _ _ hb (fun e => hr (by cases e; rfl))
          exact ⟨f' + 1, t', by rw [hgo, h5]; rfl, h6⟩
        · rw [hb] at h
          injection h with h
          injection h with h1 h2
          subst h1 h2
          obtain ⟨f', t', h5, d, k1, k2, k3, k4, k5⟩ := h3 _ _ hb (fun e => by cases e)
          exact ⟨f' + 1, { t' with calls := t'.calls - 1 }, by rw [hgo, h5]; rfl, d, by simp only [k1], k2, k3, k4, k5⟩
/-- A pass keeps how steps end, but for want of fuel. -/
theorem pass_run {L : List Fm} {T : Fm → Fm} (hT : Pass T) (hL : ∀ F ∈ L, RightF L F) {R : Fm → List Stp → Pl → List Stp → Pl → Prop} (hR : ∀ F ∈ L, Sim F (T F) (R F)) (hm : ∃ G, L.find? (fun f => f.name == [109, 97, 105, 110]) = some G ∧ G.params = 0)
    {given : List Int} (hgv : ∀ x ∈ given, N64 x) {f fuel : Nat} {x : Int × Int × List Int} (h : runM L f given fuel = some x) (h6 : x.1 ≠ 6) : ∃ f', runM (L.map T) f' given fuel = some x := by
  rw [runM_eq] at h
  obtain ⟨G, hG, hp⟩ := hm
  rcases hc : callM L f ⟨given, fuel, 0, [], []⟩ [109, 97, 105, 110] [] with _ | ⟨r, t⟩
  · rw [hc] at h; cases h
  · rw [hc] at h
    obtain rfl := (Option.some.inj h).symm
    obtain ⟨f', t', h1, d, h2⟩ := (sim_all hT hL hR f).2 ⟨given, fuel, 0, [], []⟩ [109, 97, 105, 110] [] ⟨(fun a ha => by cases ha), hgv⟩ ⟨G, hG, by rw [hp]; rfl, fun i y hy => by simp at hy⟩ r t hc (fun e => by subst e; exact h6 rfl)
    refine ⟨f', ?_⟩
    rw [runM_eq, h1]
    have : endOf (r, t') = endOf (r, t) := by
      rcases r with (w | n) | n <;> simp only [endOf, h2.out]
    show some (endOf (r, t')) = _
    rw [this]
end Go.Proofs.YtoajcbfejplfbaaDoor.MidP
namespace Go.Proofs.YtoajcbfejplfbaaDoor.MidP
open Go.RowKit Go.Proofs.YtoajcbfejplfbaaDoor.TreeP
set_option linter.unusedVariables false
set_option linter.unusedSimpArgs false
/-! Labels. -/
def isLab (l : Int) (s : Stp) : Bool := s.code == 6 && s.label == l
def NoLab (l : Int) (m : List Stp) : Prop := ∀ s ∈ m, isLab l s = false
def labs (m : List Stp) : List Int := (m.filter (fun s => s.code == 6)).map (fun s => s.label)
theorem labs_append (a b : List Stp) : labs (a ++ b) = labs a ++ labs b := by unfold labs; rw [List.filter_append, List.map_append]
theorem labs_cons (s : Stp) (r : List Stp) : labs (s :: r) = (if s.code = 6 then [s.label] else []) ++ labs r := by
  unfold labs
  rw [List.filter_cons]
  by_cases h : s.code = 6 <;> simp [h]
theorem noLab_iff (l : Int) (m : List Stp) : NoLab l m ↔ l ∉ labs m := by
  unfold NoLab labs isLab
  simp only [List.mem_map, List.mem_filter, not_exists, not_and]
  constructor
  · intro h s hs e
    have := h s hs.1
    simp at this
    exact this (by simpa using hs.2) e
  · intro h s hs
    have := h s
    simp only [Bool.and_eq_false_iff, beq_eq_false_iff_ne, ne_eq]
    by_cases h6 : s.code = 6
    · exact Or.inr (this ⟨hs, by simp [h6]⟩)
    · exact Or.inl h6
theorem has_iff (F : Fm) (l : Int) : hasLabel F l = true ↔ l ∈ labs F.steps := by
  unfold hasLabel labs
  simp [List.any_eq_true, and_assoc]
theorem lab_split {l : Int} : (m : List Stp) → l ∈ labs m → ∃ pre x post, m = pre ++ x :: post ∧ x.code = 6 ∧ x.label = l ∧ NoLab l post
  | [], h => by simp [labs] at h
  | s :: r, h => by
    by_cases hr : l ∈ labs r
    · obtain ⟨pre, x, post, h1, h2⟩ := lab_split r hr
      exact ⟨s :: pre, x, post, by rw [h1]; rfl, h2⟩
    · rw [labs_cons] at h
      rcases List.mem_append.1 h with h | h
      · split at h
        · rename_i h6
          simp only [List.mem_singleton] at h
          exact ⟨[], s, r, rfl, h6, h.symm, (noLab_iff _ _).2 hr⟩
        · cases h
      · exact absurd h hr
theorem labelAt_none {l : Int} : (m : List Stp) → NoLab l m → ∀ i k, labelAt m l i k = k
  | [], _, _, _ => rfl
  | s :: r, h, i, k => by
    rw [labelAt]
    have h1 := h s List.mem_cons_self
    unfold isLab at h1
    rw [if_neg (by simpa using h1)]
    exact labelAt_none r (fun t ht => h t (List.mem_cons_of_mem _ ht)) _ _
theorem labelAt_split {l : Int} {x : Stp} {post : List Stp} (hx : x.code = 6 ∧ x.label = l) (hp : NoLab l post) : (pre : List Stp) → ∀ i k, labelAt (pre ++ x :: post) l i k = i + pre.length
  | [], i, k => by
    rw [List.nil_append, labelAt, if_pos hx, labelAt_none _ hp]
    rfl
  | s :: r, i, k => by
    rw [List.cons_append, labelAt, labelAt_split hx hp r]
    simp only [List.length_cons]
    omega
theorem jumpTo_split {F : Fm} {l : Int} {pre post : List Stp} {x : Stp} (h : F.steps = pre ++ x :: post) (hx : x.code = 6 ∧ x.label = l) (hp : NoLab l post) : atP F l = pre.length ∧ jumpTo F l = post := by
  have h1 : atP F l = pre.length := by
    unfold atP
    rw [h, labelAt_split hx hp]
    omega
  refine ⟨h1, ?_⟩
  unfold jumpTo
  rw [h1, h]
  have : pre ++ x :: post = (pre ++ [x]) ++ post := by simp
  rw [this, List.drop_left' (by simp)]
theorem once_iff : (m : List Stp) → ∀ T, onceB T m = true ↔ (∀ l ∈ labs m, l ∉ T) ∧ (labs m).Nodup
  | [], T => by simp [onceB, labs]
  | s :: r, T => by
    rw [onceB, labs_cons]
    by_cases h6 : s.code = 6
    · rw [if_pos h6, if_pos h6]
      by_cases hc : T.contains s.label = true
      · rw [if_pos hc]
        simp only [Bool.false_eq_true, false_iff, not_and]
        intro h
        exact absurd (by simpa using hc) (h s.label (by simp))
      · rw [if_neg hc, once_iff r]
        have hc2 : s.label ∉ T := fun e => hc (by simpa using e)
        show (∀ l ∈ labs r, l ∉ T ++ [s.label]) ∧ (labs r).Nodup ↔ (∀ l ∈ s.label :: labs r, l ∉ T) ∧ (s.label :: labs r).Nodup
        rw [List.nodup_cons]
        constructor
        · rintro ⟨h1, h2⟩
          refine ⟨fun l hl => ?_, fun h => h1 _ h (by simp), h2⟩
          rcases List.mem_cons.1 hl with e | h
          · rw [e]; exact hc2
          · exact fun e => h1 l h (by simp [e])
        · rintro ⟨h1, h2, h3⟩
          refine ⟨fun l hl e => ?_, h3⟩
          rcases List.mem_append.1 e with e | e
          · exact h1 l (List.mem_cons_of_mem _ hl) e
          · rw [List.mem_singleton] at e
            exact h2 (e ▸ hl)
    · rw [if_neg h6, if_neg h6, once_iff r]
      simp
/-! What is right, as it is used. -/
structure FnR (L : List Fm) (F : Fm) : Prop where
  types : F.types.length ≤ 3000
  pos : 1 ≤ F.steps.length
  len : F.steps.length ≤ 6000
  last : ∃ s, F.steps.getLast? = some s ∧ (s.code = 8 ∨ s.code = 4)
  kinds : ∀ t ∈ F.types, t = 1 ∨ t = 2
  once : (labs F.steps).Nodup
  steps : ∀ x ∈ F.steps, rightB L F x = true
theorem fnB_iff (L : List Fm) (F : Fm) : fnB L F = true ↔ FnR L F := by
  unfold fnB
  simp only [Bool.and_eq_true, decide_eq_true_eq, List.all_eq_true, Bool.or_eq_true, beq_iff_eq]
  constructor
  · rintro ⟨⟨⟨⟨⟨⟨h1, h2⟩, h3⟩, h4⟩, h5⟩, h6⟩, h7⟩
    refine ⟨h1, h2, h3, ?_, h5, ((once_iff _ _).1 h6).2, h7⟩
    split at h4
    · rename_i s hs
      simp at h4
      exact ⟨s, hs, h4⟩
    · cases h4
  · rintro ⟨h1, h2, h3, ⟨s, hs, h4⟩, h5, h6, h7⟩
    refine ⟨⟨⟨⟨⟨⟨h1, h2⟩, h3⟩, ?_⟩, h5⟩, (once_iff _ _).2 ⟨(fun l _ h => by cases h), h6⟩⟩, h7⟩
    rw [hs]
    simpa using h4
/-- Right code whose numbers are numbers. -/
structure Good (L : List Fm) : Prop where
  right : codeB L = true
  n64 : ∀ F ∈ L, ∀ x ∈ F.steps, N64 x.n
theorem heads_pars : (L A : List Fm) → headsB A L = true → ∀ F ∈ L, 0 ≤ F.params ∧ F.params ≤ F.types.length
  | [], _, _, F, h => by cases h
  | g :: r, A, h, F, hF => by
    rw [headsB] at h
    split at h
    · cases h
    rename_i hn
    rcases List.mem_cons.1 hF with rfl | hF
    · simp only [not_or, Int.not_lt] at hn
      omega
    · exact heads_pars r _ h F hF
theorem heads_apart : (L A : List Fm) → headsB A L = true → ∀ F ∈ L, ∀ g ∈ A, g.name ≠ F.name
  | [], _, _, F, h => by cases h
  | g :: r, A, h, F, hF => by
    rw [headsB] at h
    split at h
    · cases h
    rename_i hn
    intro a ha
    rcases List.mem_cons.1 hF with rfl | hF
    · intro e
      exact hn (Or.inr (Or.inr (List.any_eq_true.2 ⟨a, ha, by simp [e]⟩)))
    · exact heads_apart r _ h F hF a (by simp [ha])
theorem heads_find : (L A : List Fm) → headsB A L = true → ∀ F ∈ L, L.find? (fun f => f.name == F.name) = some F
  | [], _, _, F, h => by cases h
  | g :: r, A, h, F, hF => by
    have h0 := h
    rw [headsB] at h
    split at h
    · cases h
    rcases List.mem_cons.1 hF with rfl | hF
    · rw [List.find?_cons_of_pos (by simp)]
    · rw [List.find?_cons_of_neg (by
        have := heads_apart r _ h F hF g (by simp)
        simp [this])]
      exact heads_find r _ h F hF
theorem Good.code {L : List Fm} (h : Good L) : L.length ≤ 12 ∧ headsB [] L = true ∧ (∀ F ∈ L, FnR L F) ∧ ∃ F ∈ L, F.name = [109, 97, 105, 110] ∧ F.params = 0 := by
  have h1 := h.right
  unfold codeB at h1
  simp only [Bool.and_eq_true, decide_eq_true_eq, List.all_eq_true, List.any_eq_true, beq_iff_eq] at h1
  exact ⟨h1.1.1.1, h1.1.1.2, fun F hF => (fnB_iff L F).1 (h1.1.2 F hF), h1.2⟩
theorem Good.rightF {L : List Fm} (h : Good L) : ∀ F ∈ L, RightF L F := fun F hF => ⟨heads_pars L [] h.code.2.1 F hF, (h.code.2.2.1 F hF).steps, h.n64 F hF⟩
theorem Good.main {L : List Fm} (h : Good L) : ∃ G, L.find? (fun f => f.name == [109, 97, 105, 110]) = some G ∧ G.params = 0 := by
  obtain ⟨-, h2, -, F, hF, h4, h5⟩ := h.code
  have := heads_find L [] h2 F hF
  rw [h4] at this
  exact ⟨F, this, h5⟩
theorem pass_kind {T : Fm → Fm} (hT : Pass T) (F : Fm) : kindP (T F) = kindP F := by
  funext p
  unfold kindP
  rw [hT.types]
theorem pass_right {T : Fm → Fm} (hT : Pass T) {L : List Fm} {F : Fm} {x : Stp} (h : rightB L F x = true) (hl : (x.code = 4 ∨ x.code = 5) → hasLabel (T F) x.label = true) : rightB (L.map T) (T F) x = true := by
  have hf : ∀ t p, fitB (T F) t p = fitB F t p := fun t p => by unfold fitB; rw [pass_kind hT]
  unfold rightB at h ⊢
  simp only [hf]
  rw [pass_kind hT, hT.find]
  by_cases h2 : x.code = 2
  · rw [if_pos h2] at h ⊢; exact h
  rw [if_neg h2] at h ⊢
  by_cases h7 : x.code = 7
  · rw [if_pos h7] at h ⊢
    split at h
    · cases h
    · rename_i g hg
      rw [hg]
      simp only [Option.map_some, hT.params, hT.types]
      exact h
  rw [if_neg h7] at h ⊢
  split at h
  · cases h
  rename_i hr
  rw [if_neg hr]
  simp only [Bool.and_eq_true] at h ⊢
  obtain ⟨⟨h0, h1⟩, h3⟩ := h
  refine ⟨⟨h0, ?_⟩, h3⟩
  by_cases e : x.code = 4 ∨ x.code = 5
  · rw [hl e]; simp
  · simp only [not_or] at e
    simp [e.1, e.2]
theorem heads_map {T : Fm → Fm} (hT : Pass T) : (L A : List Fm) → headsB A L = true → headsB (A.map T) (L.map T) = true
  | [], _, _ => rfl
  | g :: r, A, h => by
    rw [headsB] at h
    split at h
    · cases h
    rename_i hn
    rw [List.map_cons, headsB, if_neg]
    · have := heads_map hT r _ h
      simpa using this
    · rw [hT.params, hT.types, hT.name, List.any_map]
      intro e
      apply hn
      rcases e with e | e | e
      · exact Or.inl e
      · exact Or.inr (Or.inl e)
      · refine Or.inr (Or.inr ?_)
        rw [List.any_eq_true] at e ⊢
        obtain ⟨a, ha, hb⟩ := e
        exact ⟨a, ha, by simpa [hT.name] using hb⟩
/-- A pass keeps what is right. -/
theorem pass_good {T : Fm → Fm} (hT : Pass T) {L : List Fm} (h : Good L) (hf : ∀ F ∈ L, FnR (L.map T) (T F) ∧ ∀ x ∈ (T F).steps, N64 x.n) : Good (L.map T) := by
  obtain ⟨h1, h2, h3, F, hF, h4, h5⟩ := h.code
  refine ⟨?_, fun G hG => ?_⟩
  · unfold codeB
    simp only [Bool.and_eq_true, decide_eq_true_eq, List.all_eq_true, List.any_eq_true, beq_iff_eq]
    refine ⟨⟨⟨by rw [List.length_map]; exact h1, heads_map hT L [] h2⟩, fun G hG => ?_⟩, T F, List.mem_map_of_mem hF, by rw [hT.name]; exact h4, by rw [hT.params]; exact h5⟩
    obtain ⟨F', hF', rfl⟩ := List.mem_map.1 hG
    exact (fnB_iff _ _).2 (hf F' hF').1
  · obtain ⟨F', hF', rfl⟩ := List.mem_map.1 hG
    exact (hf F' hF').2
/-- A pass that only leaves steps out. -/
theorem pass_sub {T : Fm → Fm} (hT : Pass T) {L : List Fm} {F : Fm} (h : FnR L F) (hs : (T F).steps.Sublist F.steps) (hl : ∃ s, (T F).steps.getLast? = some s ∧ (s.code = 8 ∨ s.code = 4)) (hj : ∀ x ∈ (T F).steps, (x.code = 4 ∨ x.code = 5) → x.label ∈ labs (T F).steps) : FnR (L.map T) (T F) := by
  have hsl : (labs (T F).steps).Sublist (labs F.steps) := (hs.filter _).map _
  refine ⟨by rw [hT.types]; exact h.types, ?_, Nat.le_trans hs.length_le h.len, hl, by rw [hT.types]; exact h.kinds, h.once.sublist hsl, fun x hx => pass_right hT (h.steps x (hs.subset hx)) fun e => (has_iff _ _).2 (hj x hx e)⟩
  obtain ⟨s, h1, -⟩ := hl
  cases he : (T F).steps with
  | nil => rw [he] at h1; cases h1
  | cons a r => simp
theorem FnR.jumps {L : List Fm} {F : Fm} (h : FnR L F) {x : Stp} (hx : x ∈ F.steps) (e : x.code = 4 ∨ x.code = 5) : x.label ∈ labs F.steps := (has_iff _ _).1 ((right_parts (h.steps x hx)).1.lab e)
/-- The same step, and both go on alike. -/
theorem same_act {F F' : Fm} {R : List Stp → Pl → List Stp → Pl → Prop} {v : Pl} {x : Stp} {r r' : List Stp} {s : RS} (hr : (x.code ≠ 4 ∧ x.code ≠ 8) → ∀ v, R r v r' v) (hj : (x.code = 4 ∨ x.code = 5) → ∀ v, R (jumpTo F x.label) v (jumpTo F' x.label) v) : ActSim R v v (actL F v x r s) (actL F' v x r' s) := by
  unfold actL
  by_cases e4 : x.code = 4
  · rw [if_pos e4, if_pos e4]; exact ActSim.go (hj (Or.inl e4) v)
  rw [if_neg e4, if_neg e4]
  by_cases e5 : x.code = 5
  · rw [if_pos e5, if_pos e5]
    by_cases e0 : (v.get x.a).n = 0
    · rw [if_pos e0, if_pos e0]; exact ActSim.go (hj (Or.inr e5) v)
    · rw [if_neg e0, if_neg e0]; exact ActSim.go (hr ⟨e4, by omega⟩ v)
  rw [if_neg e5, if_neg e5]
  by_cases e7 : x.code = 7
  · rw [if_pos e7, if_pos e7]; exact ActSim.call fun n => hr ⟨e4, by omega⟩ _
  rw [if_neg e7, if_neg e7]
  by_cases e8 : x.code = 8
  · rw [if_pos e8, if_pos e8]; exact ActSim.ret _ _
  rw [if_neg e8, if_neg e8]
  rcases stepM_form v x s with ⟨v2, t2, h⟩ | ⟨w, t2, h⟩
  · rw [h]; exact ActSim.go (hr ⟨e4, e8⟩ _)
  · rw [h]; exact ActSim.stop _ _
/-! What is never reached. -/
def onF (F : Fm) : Fm := { F with steps := onS true F.steps }
theorem onF_pass : Pass onF := ⟨fun _ => rfl, fun _ => rfl, fun _ => rfl⟩
theorem onS_append : (a : List Stp) → ∀ on, ∃ on' A, ∀ b, onS on (a ++ b) = A ++ onS on' b
  | [], on => ⟨on, [], fun _ => rfl⟩
  | s :: r, on => by
    obtain ⟨on', A, h⟩ := onS_append r ((on || s.code == 6) && !(s.code == 4 || s.code == 8))
    exact ⟨on', (if on || s.code == 6 then [s] else []) ++ A, fun b => by rw [List.cons_append, onS, h, List.append_assoc]⟩
theorem onS_labs : (a : List Stp) → ∀ on, labs (onS on a) = labs a
  | [], _ => rfl
  | s :: r, on => by
    rw [onS, labs_append, onS_labs r, labs_cons]
    congr 1
    by_cases h : s.code = 6
    · simp [h, labs]
    · split
      · simp [h, labs]
      · simp [h, labs]
theorem onS_sub : (a : List Stp) → ∀ on, (onS on a).Sublist a
  | [], _ => List.Sublist.slnil
  | s :: r, on => by
    rw [onS]
    split
    · exact (onS_sub r _).cons_cons s
    · exact (onS_sub r _).cons s
theorem onS_last : (a : List Stp) → ∀ on, (∃ s, a.getLast? = some s ∧ (s.code = 8 ∨ s.code = 4)) → (∃ s, (onS on a).getLast? = some s ∧ (s.code = 8 ∨ s.code = 4)) ∨ (on = false ∧ onS on a = [])
  | [], _, ⟨s, h, _⟩ => by cases h
  | [x], on, ⟨s, h, h8⟩ => by
    obtain rfl : x = s := by simpa using h
    rw [onS, onS]
    have h6 : (x.code == 6) = false := by rcases h8 with e | e <;> simp [e]
    rw [h6]
    cases on with
    | true => exact Or.inl ⟨x, by simp, h8⟩
    | false => exact Or.inr ⟨rfl, by simp⟩
  | x :: y :: r, on, ⟨s, h, h8⟩ => by
    rw [onS]
    rcases onS_last (y :: r) ((on || x.code == 6) && !(x.code == 4 || x.code == 8)) ⟨s, by simpa using h, h8⟩ with ⟨t, h1, h2⟩ | ⟨h1, h2⟩
    · exact Or.inl ⟨t, by rw [List.getLast?_append, h1]; rfl, h2⟩
    · rw [h2]
      cases hon : (on || x.code == 6) with
      | true =>
        rw [hon] at h1
        refine Or.inl ⟨x, by simp, ?_⟩
        simp at h1
        by_cases h4 : x.code = 4
        · exact Or.inr h4
        · exact Or.inl (h1 h4)
      | false =>
        refine Or.inr ⟨?_, by simp⟩
        cases on with
        | false => rfl
        | true => simp at hon
theorem onF_jump {F : Fm} {l : Int} (h : l ∈ labs F.steps) : jumpTo (onF F) l = onS true (jumpTo F l) := by
  obtain ⟨pre, x, post, h1, h2, h3, h4⟩ := lab_split F.steps h
  rw [(jumpTo_split h1 ⟨h2, h3⟩ h4).2]
  obtain ⟨on', A, hA⟩ := onS_append pre true
  have h5 : (onF F).steps = A ++ x :: onS true post := by
    show onS true F.steps = _
    rw [h1, hA, onS]
    simp [h2]
  exact (jumpTo_split h5 ⟨h2, h3⟩ ((noLab_iff _ _).2 (by rw [onS_labs]; exact (noLab_iff _ _).1 h4))).2
theorem onF_right {L : List Fm} {F : Fm} (h : FnR L F) : FnR (L.map onF) (onF F) := by
  refine pass_sub onF_pass h (onS_sub _ _) ?_ ?_
  · rcases onS_last F.steps true h.last with h1 | ⟨h1, _⟩
    · exact h1
    · cases h1
  · intro x hx e
    show x.label ∈ labs (onS true F.steps)
    rw [onS_labs]
    exact h.jumps ((onS_sub _ _).subset hx) e
theorem onF_sim {L : List Fm} {F : Fm} (h : FnR L F) : Sim F (onF F) (fun l v l' v' => v' = v ∧ l' = onS true l) := by
  refine ⟨fun v _ => ⟨rfl, rfl⟩, fun v l' v' h => h.2, ?_⟩
  rintro x r v l' v' s ⟨rfl, rfl⟩ hl hv hs
  refine Or.inr ⟨x, onS (!(x.code == 4 || x.code == 8)) r, by rw [onS]; simp, ?_⟩
  refine same_act (fun e v => ⟨rfl, ?_⟩) (fun e v => ⟨rfl, onF_jump (h.jumps (hl.subset List.mem_cons_self) e)⟩)
  have h1 : (x.code == 4) = false := by simpa using e.1
  have h2 : (x.code == 8) = false := by simpa using e.2
  rw [h1, h2]
  rfl
/-! Jumps to what comes next. -/
def jumpF (F : Fm) : Fm := { F with steps := jumpS F.steps }
theorem jumpF_pass : Pass jumpF := ⟨fun _ => rfl, fun _ => rfl, fun _ => rfl⟩
theorem jumpS_append {x : Stp} {post : List Stp} : (a : List Stp) → ∃ A, jumpS (a ++ x :: post) = A ++ jumpS (x :: post)
  | [] => ⟨[], rfl⟩
  | s :: r => by
    obtain ⟨A, h⟩ := jumpS_append (x := x) (post := post) r
    exact ⟨_, by rw [List.cons_append, jumpS_cons, h, ← List.append_assoc]⟩
theorem skip_code {s : Stp} {r : List Stp} (h : skipB s r = true) : s.code = 4 ∧ ∃ t r', r = t :: r' ∧ t.code = 6 ∧ t.label = s.label := by
  unfold skipB at h
  split at h
  · cases h
  · simp at h
    exact ⟨h.1.1, _, _, rfl, h.1.2, h.2⟩
theorem jumpS_labs : (a : List Stp) → labs (jumpS a) = labs a
  | [] => rfl
  | s :: r => by
    rw [jumpS_cons, labs_append, jumpS_labs r, labs_cons]
    congr 1
    by_cases h : skipB s r = true
    · rw [if_pos h, if_neg (by rw [(skip_code h).1]; decide)]; rfl
    · rw [if_neg h]
      by_cases h6 : s.code = 6 <;> simp [h6, labs]
theorem jumpS_sub : (a : List Stp) → (jumpS a).Sublist a
  | [] => List.Sublist.slnil
  | s :: r => by
    rw [jumpS_cons]
    split
    · exact (jumpS_sub r).cons s
    · exact (jumpS_sub r).cons_cons s
theorem jumpS_last : (a : List Stp) → (jumpS a).getLast? = a.getLast?
  | [] => rfl
  | [x] => rfl
  | x :: y :: r => by
    have ih := jumpS_last (y :: r)
    rw [jumpS_cons, List.getLast?_append, ih, List.getLast?_cons_cons]
    cases h : (y :: r).getLast? with
    | none => simp at h
    | some s => rfl
theorem jumpS_lab {x : Stp} {r : List Stp} (h : x.code = 6) : jumpS (x :: r) = x :: jumpS r := by
  rw [jumpS_cons, if_neg]
  · rfl
  · intro e
    have := (skip_code e).1
    omega
theorem jumpF_jump {F : Fm} {l : Int} (h : l ∈ labs F.steps) : jumpTo (jumpF F) l = jumpS (jumpTo F l) := by
  obtain ⟨pre, x, post, h1, h2, h3, h4⟩ := lab_split F.steps h
  rw [(jumpTo_split h1 ⟨h2, h3⟩ h4).2]
  obtain ⟨A, hA⟩ := jumpS_append (x := x) (post := post) pre
  have h5 : (jumpF F).steps = A ++ x :: jumpS post := by
    show jumpS F.steps = _
    rw [h1, hA, jumpS_lab h2]
  exact (jumpTo_split h5 ⟨h2, h3⟩ ((noLab_iff _ _).2 (by rw [jumpS_labs]; exact (noLab_iff _ _).1 h4))).2
theorem jumpF_right {L : List Fm} {F : Fm} (h : FnR L F) : FnR (L.map jumpF) (jumpF F) := by
  refine pass_sub jumpF_pass h (jumpS_sub _) ?_ ?_
  · show ∃ s, (jumpS F.steps).getLast? = some s ∧ _
    rw [jumpS_last]
    exact h.last
  · intro x hx e
    show x.label ∈ labs (jumpS F.steps)
    rw [jumpS_labs]
    exact h.jumps ((jumpS_sub _).subset hx) e
theorem jumpF_sim {L : List Fm} {F : Fm} (h : FnR L F) : Sim F (jumpF F) (fun l v l' v' => v' = v ∧ l' = jumpS l) := by
  refine ⟨fun v _ => ⟨rfl, rfl⟩, fun v l' v' h => h.2, ?_⟩
  rintro x r v l' v' s ⟨rfl, rfl⟩ hl hv hs
  have hj : (x.code = 4 ∨ x.code = 5) → jumpTo (jumpF F) x.label = jumpS (jumpTo F x.label) := fun e => jumpF_jump (h.jumps (hl.subset List.mem_cons_self) e)
  by_cases hk : skipB x r = true
  · obtain ⟨h4, t, r', rfl, h6, hlb⟩ := skip_code hk
    refine Or.inr ⟨t, jumpS r', by rw [jumpS_cons, if_pos hk, List.nil_append, jumpS_lab h6], ?_⟩
    obtain ⟨p, hp⟩ := hl
    have hno : NoLab x.label r' := by
      rw [noLab_iff]
      have h1 := h.once
      rw [← hp, labs_append, labs_cons, labs_cons, if_neg (by rw [h4]; decide), if_pos h6, hlb] at h1
      have h2 := (List.nodup_append.1 h1).2.1
      simp only [List.nil_append, List.singleton_append, List.nodup_cons] at h2
      exact h2.1
    have hto : jumpTo F x.label = r' := (jumpTo_split (pre := p ++ [x]) (x := t) (by rw [← hp]; simp) ⟨h6, hlb⟩ hno).2
    have a1 : actL F v' x (t :: r') s = .go r' v' s := by unfold actL; rw [if_pos h4, hto]
    have a2 : actL (jumpF F) v' t (jumpS r') s = .go (jumpS r') v' s := by
      unfold actL
      rw [if_neg (by omega), if_neg (by omega), if_neg (by omega), if_neg (by omega)]
      unfold stepM
      rw [if_neg (by omega), if_neg (by omega), if_neg (by omega), if_neg (by omega), if_neg (by omega), if_neg (by omega), if_neg (by omega), if_neg (by omega), if_neg (by omega)]
      rfl
    rw [a1, a2]
    exact ActSim.go ⟨rfl, rfl⟩
  · refine Or.inr ⟨x, jumpS r, by rw [jumpS_cons, if_neg hk]; rfl, ?_⟩
    exact same_act (fun e v => ⟨rfl, rfl⟩) (fun e v => ⟨rfl, hj e⟩)
/-! Labels that nobody jumps to. -/
def spareF (F : Fm) : Fm := { F with steps := F.steps.filter (fun s => !spareB F.steps s) }
theorem spareF_pass : Pass spareF := ⟨fun _ => rfl, fun _ => rfl, fun _ => rfl⟩
theorem used_mem {l : List Stp} {x : Stp} (hx : x ∈ l) (e : x.code = 4 ∨ x.code = 5) : usedB l x.label = true := by
  unfold usedB
  rw [List.any_eq_true]
  refine ⟨x, hx, ?_⟩
  rcases e with e | e <;> simp [e]
theorem spare_not {l : List Stp} {x : Stp} (h : x.code ≠ 6 ∨ usedB l x.label = true) : spareB l x = false := by
  unfold spareB
  rcases h with h | h <;> simp [h]
theorem spareF_split {F : Fm} {l : Int} (h : l ∈ labs F.steps) (hu : usedB F.steps l = true) : jumpTo (spareF F) l = (jumpTo F l).filter (fun s => !spareB F.steps s) ∧ l ∈ labs (spareF F).steps := by
  obtain ⟨pre, x, post, h1, h2, h3, h4⟩ := lab_split F.steps h
  rw [(jumpTo_split h1 ⟨h2, h3⟩ h4).2]
  have h5 : (spareF F).steps = pre.filter (fun s => !spareB F.steps s) ++ x :: post.filter (fun s => !spareB F.steps s) := by
    show F.steps.filter _ = _
    have e : ∀ m, m = F.steps → m.filter (fun s => !spareB F.steps s) = pre.filter (fun s => !spareB F.steps s) ++ x :: post.filter (fun s => !spareB F.steps s) := by
      intro m hm
      rw [hm.trans h1, List.filter_append, List.filter_cons_of_pos (by rw [spare_not (Or.inr (by rw [h3]; exact hu))]; rfl)]
    exact e _ rfl
  refine ⟨(jumpTo_split h5 ⟨h2, h3⟩ fun s hs => h4 s (List.mem_filter.1 hs).1).2, ?_⟩
  rw [h5, labs_append, labs_cons, if_pos h2, h3]
  simp
theorem spareF_right {L : List Fm} {F : Fm} (h : FnR L F) : FnR (L.map spareF) (spareF F) := by
  refine pass_sub spareF_pass h List.filter_sublist ?_ ?_
  · obtain ⟨s, h1, h2⟩ := h.last
    refine ⟨s, ?_, h2⟩
    obtain ⟨m, hm⟩ := List.getLast?_eq_some_iff.1 h1
    show (F.steps.filter _).getLast? = _
    have e : ∀ q, q = F.steps → (q.filter (fun s => !spareB F.steps s)).getLast? = some s := by
      intro q hq
      rw [hq.trans hm, List.filter_append, List.filter_cons_of_pos (by rw [spare_not (Or.inl (by omega))]; rfl), List.filter_nil]
      simp
    exact e _ rfl
  · intro x hx e
    have hxm : x ∈ F.steps := (List.mem_filter.1 hx).1
    exact (spareF_split (h.jumps hxm e) (used_mem hxm e)).2
theorem spareF_sim {L : List Fm} {F : Fm} (h : FnR L F) : Sim F (spareF F) (fun l v l' v' => v' = v ∧ l' = l.filter (fun s => !spareB F.steps s)) := by
  refine ⟨fun v _ => ⟨rfl, rfl⟩, fun v l' v' h => h.2, ?_⟩
  rintro x r v l' v' s ⟨rfl, rfl⟩ hl hv hs
  have hxm : x ∈ F.steps := hl.subset List.mem_cons_self
  cases hk : spareB F.steps x with
  | true =>
    have h6 : x.code = 6 := by
      unfold spareB at hk
      simp at hk
      exact hk.1
    refine Or.inl ⟨r, v', ?_, rfl, by rw [List.filter_cons_of_neg (by rw [hk]; decide)]⟩
    unfold actL
    rw [if_neg (by omega), if_neg (by omega), if_neg (by omega), if_neg (by omega)]
    unfold stepM
    rw [if_neg (by omega), if_neg (by omega), if_neg (by omega), if_neg (by omega), if_neg (by omega), if_neg (by omega), if_neg (by omega), if_neg (by omega), if_neg (by omega)]
    rfl
  | false =>
    refine Or.inr ⟨x, r.filter (fun s => !spareB F.steps s), by rw [List.filter_cons_of_pos (by rw [hk]; rfl)], ?_⟩
    exact same_act (fun e v => ⟨rfl, rfl⟩) (fun e v => ⟨rfl, (spareF_split (h.jumps hxm e) (used_mem hxm e)).1⟩)
theorem reachedF_eq (F : Fm) : reachedF F = spareF (jumpF (onF F)) := rfl
end Go.Proofs.YtoajcbfejplfbaaDoor.MidP
namespace Go.Proofs.YtoajcbfejplfbaaDoor.MidP
open Go.RowKit Go.Proofs.YtoajcbfejplfbaaDoor.TreeP
set_option linter.unusedVariables false
set_option linter.unusedSimpArgs false
theorem deadF_pass : Pass deadF := ⟨fun _ => rfl, fun _ => rfl, fun _ => rfl⟩
theorem deadS_append (F : Fm) : (a : List Stp) → ∀ i b, deadS F i (a ++ b) = deadS F i a ++ deadS F (i + a.length) b
  | [], i, b => rfl
  | s :: r, i, b => by
    rw [List.cons_append, deadS, deadS, deadS_append F r, List.length_cons, show i + 1 + r.length = i + (r.length + 1) by omega]
    split <;> rfl
theorem pure_codes {s : Stp} (h : pureP s = true) : s.code = 1 ∨ s.code = 2 ∨ s.code = 10 ∨ (s.code = 3 ∧ s.op ≠ [47] ∧ s.op ≠ [37]) := by
  unfold pureP at h
  simp at h
  rcases h with ((h | h) | h) | ⟨⟨h, h1⟩, h2⟩
  · exact Or.inl h
  · exact Or.inr (Or.inl h)
  · exact Or.inr (Or.inr (Or.inl h))
  · exact Or.inr (Or.inr (Or.inr ⟨h, h1, h2⟩))
theorem dead_keep (F : Fm) (i : Nat) (s : Stp) (r : List Stp) (h : pureP s = false) : deadS F i (s :: r) = s :: deadS F (i + 1) r := by
  rw [deadS, if_pos (by rw [h]; rfl)]
theorem pure_not {s : Stp} (h : s.code = 4 ∨ s.code = 5 ∨ s.code = 6 ∨ s.code = 8 ∨ s.code = 7) : pureP s = false := by
  cases hp : pureP s with
  | false => rfl
  | true => have := pure_codes hp; omega
theorem dead_labs (F : Fm) : (a : List Stp) → ∀ i, labs (deadS F i a) = labs a
  | [], _ => rfl
  | s :: r, i => by
    rw [deadS]
    split
    · rw [labs_cons, labs_cons, dead_labs F r]
    · rename_i h
      have : pureP s = true := by
        cases hp : pureP s with
        | true => rfl
        | false => rw [hp] at h; exact absurd rfl h
      have := pure_codes this
      rw [dead_labs F r, labs_cons, if_neg (by omega)]
      rfl
theorem dead_sub (F : Fm) : (a : List Stp) → ∀ i, (deadS F i a).Sublist a
  | [], _ => List.Sublist.slnil
  | s :: r, i => by
    rw [deadS]
    split
    · exact (dead_sub F r _).cons_cons s
    · exact (dead_sub F r _).cons s
theorem deadF_right {L : List Fm} {F : Fm} (h : FnR L F) : FnR (L.map deadF) (deadF F) := by
  refine pass_sub deadF_pass h (dead_sub F _ _) ?_ ?_
  · obtain ⟨s, h1, h2⟩ := h.last
    refine ⟨s, ?_, h2⟩
    obtain ⟨m, hm⟩ := List.getLast?_eq_some_iff.1 h1
    show (deadS F 0 F.steps).getLast? = _
    rw [hm, deadS_append, dead_keep _ _ _ _ (pure_not (by omega))]
    simp [deadS]
  · intro x hx e
    show x.label ∈ labs (deadS F 0 F.steps)
    rw [dead_labs]
    exact h.jumps ((dead_sub F _ _).subset hx) e
theorem deadF_jump {F : Fm} {l : Int} (h : l ∈ labs F.steps) : jumpTo F l = F.steps.drop (atP F l + 1) ∧ jumpTo (deadF F) l = deadS F (atP F l + 1) (jumpTo F l) ∧ ∃ x, F.steps[atP F l]? = some x ∧ x.code = 6 := by
  refine ⟨rfl, ?_⟩
  obtain ⟨pre, x, post, h1, h2, h3, h4⟩ := lab_split F.steps h
  obtain ⟨h6, h7⟩ := jumpTo_split h1 ⟨h2, h3⟩ h4
  rw [h7, h6]
  have h5 : (deadF F).steps = deadS F 0 pre ++ x :: deadS F (pre.length + 1) post := by
    show deadS F 0 F.steps = _
    have e : ∀ m, m = F.steps → deadS F 0 m = deadS F 0 pre ++ x :: deadS F (pre.length + 1) post := by
      intro m hm
      rw [hm.trans h1, deadS_append, dead_keep _ _ _ _ (pure_not (by omega)), Nat.zero_add]
    exact e _ rfl
  refine ⟨(jumpTo_split h5 ⟨h2, h3⟩ ((noLab_iff _ _).2 (by rw [dead_labs]; exact (noLab_iff _ _).1 h4))).2, x, ?_, h2⟩
  rw [h1]
  simp
/-- Places that are read alike. -/
structure Alike (F : Fm) (i : Nat) (v v' : Pl) : Prop where
  len : v'.length = v.length
  get : ∀ p, 0 ≤ p → NeededA F i p → v.get p = v'.get p
theorem writes_none {x : Stp} (h : x.code = 4 ∨ x.code = 5 ∨ x.code = 6 ∨ x.code = 8 ∨ x.code = 12 ∨ x.code = 13) : writesP x = -1 := by
  unfold writesP
  rw [if_neg (by omega)]
theorem writes_dst {x : Stp} (h : x.code = 1 ∨ x.code = 2 ∨ x.code = 3 ∨ x.code = 7 ∨ x.code = 9 ∨ x.code = 10 ∨ x.code = 11 ∨ x.code = 14) : writesP x = x.dst := by
  unfold writesP
  rw [if_pos h]
section
variable {F : Fm}
theorem not_last {L : List Fm} (h : FnR L F) {i : Nat} {x : Stp} (hx : F.steps[i]? = some x) (hc : x.code ≠ 8 ∧ x.code ≠ 4) : i + 1 < F.steps.length := by
  apply Decidable.byContradiction
  intro hn
  have hi : i < F.steps.length := (List.getElem?_eq_some_iff.1 hx).1
  obtain ⟨s, h1, h2⟩ := h.last
  rw [List.getLast?_eq_getElem?, show F.steps.length - 1 = i by omega, hx] at h1
  have := Option.some.inj h1
  subst this
  omega
theorem follow_next {L : List Fm} (h : FnR L F) {i : Nat} {x : Stp} (hx : F.steps[i]? = some x) (hc : x.code ≠ 8 ∧ x.code ≠ 4) : i + 1 ∈ followsP F i := by
  unfold followsP
  rw [hx]
  simp only
  rw [if_pos (c := x.code ≠ 4 ∧ x.code ≠ 8 ∧ i + 1 < F.steps.length) ⟨hc.2, hc.1, not_last h hx hc⟩]
  simp
theorem follow_jump {i : Nat} {x : Stp} (hx : F.steps[i]? = some x) (hc : x.code = 4 ∨ x.code = 5) : atP F x.label ∈ followsP F i := by
  unfold followsP
  rw [hx]
  simp only
  rw [if_pos hc]
  simp
/-- What is needed behind a step that writes nothing is needed ahead of it. -/
theorem Alike.to {L : List Fm} (h : FnR L F) {i k : Nat} {x : Stp} (hx : F.steps[i]? = some x) (hk : k ∈ followsP F i) (hw : writesP x = -1) {v v' : Pl} (ha : Alike F i v v') : Alike F k v v' :=
  ⟨ha.len, fun p hp hn => ha.get p hp ((needed_closed F).keep i x p hx ((needed_closed F).next i k p hk hn) (by omega))⟩
theorem Alike.put {L : List Fm} (h : FnR L F) {i k : Nat} {x : Stp} (hx : F.steps[i]? = some x) (hk : k ∈ followsP F i) (hw : writesP x = x.dst) {v v' : Pl} (hd : 0 ≤ x.dst ∧ x.dst.toNat < v.length) (ha : Alike F i v v') (y : V) : Alike F k (v.put x.dst y) (v'.put x.dst y) := by
  refine ⟨by rw [plput_len, plput_len]; exact ha.len, fun p hp hn => ?_⟩
  rw [get_put hd hp, get_put (by rw [ha.len]; exact hd) hp]
  split
  · rfl
  · rename_i hne
    exact ha.get p hp ((needed_closed F).keep i x p hx ((needed_closed F).next i k p hk hn) (by rw [hw]; exact hne))
theorem Alike.skip {L : List Fm} (h : FnR L F) {i k : Nat} {x : Stp} (hx : F.steps[i]? = some x) (hk : k ∈ followsP F i) (hw : writesP x = x.dst) (hn : ¬ Needed F i x.dst) {v v' : Pl} (hd : 0 ≤ x.dst ∧ x.dst.toNat < v.length) (ha : Alike F i v v') (y : V) : Alike F k (v.put x.dst y) v' := by
  refine ⟨by rw [plput_len]; exact ha.len, fun p hp hnp => ?_⟩
  have h1 := (needed_closed F).next i k p hk hnp
  have hne : p ≠ x.dst := fun e => hn (e ▸ h1)
  rw [get_put hd hp, if_neg hne]
  exact ha.get p hp ((needed_closed F).keep i x p hx h1 (by rw [hw]; exact hne))
end
/-- A step reads what it uses. -/
theorem step_uses {v v' : Pl} {x : Stp} {s : RS} (h : ∀ p ∈ usesP x, v.get p = v'.get p) (hc : x.code ≠ 7) :
    (∃ w t, stepM v x s = some (.error (.stop w), t) ∧ stepM v' x s = some (.error (.stop w), t)) ∨ (∃ y t, (x.code = 1 ∨ x.code = 2 ∨ x.code = 3 ∨ x.code = 9 ∨ x.code = 10 ∨ x.code = 11 ∨ x.code = 14) ∧ stepM v x s = some (.ok (v.put x.dst y), t) ∧ stepM v' x s = some (.ok (v'.put x.dst y), t)) ∨ (∃ t, writesP x = -1 ∧ stepM v x s = some (.ok v, t) ∧ stepM v' x s = some (.ok v', t)) := by
  unfold usesP at h
  by_cases e : x.code = 1
  · have hw : x.code = 1 ∨ x.code = 2 ∨ x.code = 3 ∨ x.code = 9 ∨ x.code = 10 ∨ x.code = 11 ∨ x.code = 14 := by omega
    unfold stepM
    rw [if_pos e, if_pos e]
    exact Or.inr (Or.inl ⟨_, _, hw, rfl, rfl⟩)
  by_cases e2 : x.code = 2
  · have hw : x.code = 1 ∨ x.code = 2 ∨ x.code = 3 ∨ x.code = 9 ∨ x.code = 10 ∨ x.code = 11 ∨ x.code = 14 := by omega
    rw [if_pos (by omega)] at h
    have ha := h x.a (by simp)
    unfold stepM
    rw [if_neg e, if_pos e2, if_neg e, if_pos e2, ha]
    exact Or.inr (Or.inl ⟨_, _, hw, rfl, rfl⟩)
  by_cases e3 : x.code = 3
  · have hw : x.code = 1 ∨ x.code = 2 ∨ x.code = 3 ∨ x.code = 9 ∨ x.code = 10 ∨ x.code = 11 ∨ x.code = 14 := by omega
    rw [if_neg (by omega), if_pos (by omega)] at h
    have ha := h x.a (by simp)
    have hb := h x.b (by simp)
    unfold stepM
    rw [if_neg e, if_neg e2, if_pos e3, if_neg e, if_neg e2, if_pos e3, ha, hb]
    split
    · exact Or.inl ⟨_, _, rfl, rfl⟩
    · exact Or.inr (Or.inl ⟨_, _, hw, rfl, rfl⟩)
  by_cases e9 : x.code = 9
  · have hw : x.code = 1 ∨ x.code = 2 ∨ x.code = 3 ∨ x.code = 9 ∨ x.code = 10 ∨ x.code = 11 ∨ x.code = 14 := by omega
    rw [if_pos (by omega)] at h
    have ha := h x.a (by simp)
    unfold stepM
    rw [if_neg e, if_neg e2, if_neg e3, if_pos e9, if_neg e, if_neg e2, if_neg e3, if_pos e9, ha]
    split
    · exact Or.inl ⟨_, _, rfl, rfl⟩
    · exact Or.inr (Or.inl ⟨_, _, hw, rfl, rfl⟩)
  by_cases e10 : x.code = 10
  · have hw : x.code = 1 ∨ x.code = 2 ∨ x.code = 3 ∨ x.code = 9 ∨ x.code = 10 ∨ x.code = 11 ∨ x.code = 14 := by omega
    rw [if_pos (by omega)] at h
    have ha := h x.a (by simp)
    unfold stepM
    rw [if_neg e, if_neg e2, if_neg e3, if_neg e9, if_pos e10, if_neg e, if_neg e2, if_neg e3, if_neg e9, if_pos e10, ha]
    exact Or.inr (Or.inl ⟨_, _, hw, rfl, rfl⟩)
  by_cases e11 : x.code = 11
  · have hw : x.code = 1 ∨ x.code = 2 ∨ x.code = 3 ∨ x.code = 9 ∨ x.code = 10 ∨ x.code = 11 ∨ x.code = 14 := by omega
    rw [if_neg (by omega), if_pos (by omega)] at h
    have ha := h x.a (by simp)
    have hb := h x.b (by simp)
    unfold stepM
    rw [if_neg e, if_neg e2, if_neg e3, if_neg e9, if_neg e10, if_pos e11, if_neg e, if_neg e2, if_neg e3, if_neg e9, if_neg e10, if_pos e11, ha, hb]
    unfold placeR
    split
    · exact Or.inl ⟨_, _, rfl, rfl⟩
    · exact Or.inr (Or.inl ⟨_, _, hw, rfl, rfl⟩)
  by_cases e12 : x.code = 12
  · have hw := writes_none (x := x) (by omega)
    rw [if_neg (by omega), if_neg (by omega), if_pos e12] at h
    have ha := h x.a (by simp)
    have hb := h x.b (by simp)
    have hc := h x.c (by simp)
    unfold stepM
    rw [if_neg e, if_neg e2, if_neg e3, if_neg e9, if_neg e10, if_neg e11, if_pos e12, if_neg e, if_neg e2, if_neg e3, if_neg e9, if_neg e10, if_neg e11, if_pos e12, ha, hb, hc]
    unfold placeR
    split
    · exact Or.inl ⟨_, _, rfl, rfl⟩
    · exact Or.inr (Or.inr ⟨_, hw, rfl, rfl⟩)
  by_cases e13 : x.code = 13
  · have hw := writes_none (x := x) (by omega)
    rw [if_pos (by omega)] at h
    have ha := h x.a (by simp)
    unfold stepM
    rw [if_neg e, if_neg e2, if_neg e3, if_neg e9, if_neg e10, if_neg e11, if_neg e12, if_pos e13, if_neg e, if_neg e2, if_neg e3, if_neg e9, if_neg e10, if_neg e11, if_neg e12, if_pos e13, ha]
    split
    · exact Or.inl ⟨_, _, rfl, rfl⟩
    · exact Or.inr (Or.inr ⟨_, hw, rfl, rfl⟩)
  by_cases e14 : x.code = 14
  · have hw : x.code = 1 ∨ x.code = 2 ∨ x.code = 3 ∨ x.code = 9 ∨ x.code = 10 ∨ x.code = 11 ∨ x.code = 14 := by omega
    unfold stepM
    rw [if_neg e, if_neg e2, if_neg e3, if_neg e9, if_neg e10, if_neg e11, if_neg e12, if_neg e13, if_pos e14, if_neg e, if_neg e2, if_neg e3, if_neg e9, if_neg e10, if_neg e11, if_neg e12, if_neg e13, if_pos e14]
    cases s.inp with
    | nil => exact Or.inr (Or.inl ⟨_, _, hw, rfl, rfl⟩)
    | cons n r => exact Or.inr (Or.inl ⟨_, _, hw, rfl, rfl⟩)
  have hw : writesP x = -1 := by unfold writesP; rw [if_neg (by omega)]
  unfold stepM
  rw [if_neg e, if_neg e2, if_neg e3, if_neg e9, if_neg e10, if_neg e11, if_neg e12, if_neg e13, if_neg e14, if_neg e, if_neg e2, if_neg e3, if_neg e9, if_neg e10, if_neg e11, if_neg e12, if_neg e13, if_neg e14]
  exact Or.inr (Or.inr ⟨_, hw, rfl, rfl⟩)
theorem pure_goes {L : List Fm} {F : Fm} {x : Stp} (hr : RightP F x) (h : pureP x = true) (v : Pl) (r : List Stp) (s : RS) : writesP x = x.dst ∧ 0 < kindP F x.dst ∧ ∃ y, actL F v x r s = .go r (v.put x.dst y) s := by
  have hc := pure_codes h
  refine ⟨writes_dst (by omega), ?_, ?_⟩
  · by_cases e : x.code = 2
    · exact (hr.copy e).1
    · have := hr.dst (by omega)
      omega
  · unfold actL
    rw [if_neg (by omega), if_neg (by omega), if_neg (by omega), if_neg (by omega)]
    unfold stepM
    rcases hc with e | e | e | ⟨e, e1, e2⟩
    · rw [if_pos e]; exact ⟨_, rfl⟩
    · rw [if_neg (by omega), if_pos e]; exact ⟨_, rfl⟩
    · rw [if_neg (by omega), if_neg (by omega), if_neg (by omega), if_neg (by omega), if_pos e]; exact ⟨_, rfl⟩
    · rw [if_neg (by omega), if_neg (by omega), if_pos e, if_neg]
      · exact ⟨_, rfl⟩
      · unfold bothP
        split
        · simp
        split
        · simp
        split
        · simp
        rw [if_neg (by simp [e1, e2])]
        repeat' split
        all_goals simp
theorem args_in {L : List Fm} {F : Fm} {x : Stp} (h : FnR L F) {G : Fm} (hk : x.args.map (kindP F) = G.types.take x.args.length) (hG : ∀ t ∈ G.types, t = 1 ∨ t = 2) : ∀ p ∈ x.args, 0 ≤ p := by
  intro p hp
  have h1 : kindP F p ∈ x.args.map (kindP F) := List.mem_map_of_mem hp
  rw [hk] at h1
  have h2 := hG _ (List.take_subset _ _ h1)
  exact (kind_in (F := F) (p := p) (by omega)).1
theorem deadF_sim {L : List Fm} (hL : ∀ F ∈ L, FnR L F) {F : Fm} (hF : F ∈ L) : Sim F (deadF F) (fun l v l' v' => ∃ i, l = F.steps.drop i ∧ l' = deadS F i l ∧ Alike F i v v') := by
  have h := hL F hF
  refine ⟨fun v _ => ⟨0, rfl, rfl, rfl, fun p _ _ => rfl⟩, fun v l' v' ⟨i, _, h2, _⟩ => h2, ?_⟩
  rintro x r v l' v' s ⟨i, hl, rfl, ha⟩ hsu hv hs
  obtain ⟨hx, hr2⟩ := drop_succ hl.symm
  have hxm : x ∈ F.steps := hsu.subset List.mem_cons_self
  obtain ⟨hrp, hcall, hlo, hhi⟩ := right_parts (h.steps x hxm)
  have hnext := fun hc => follow_next h hx hc
  by_cases hk : (!pureP x || neededB F i (writesP x)) = true
  · refine Or.inr ⟨x, deadS F (i + 1) r, by rw [deadS, if_pos hk], ?_⟩
    have huse : ∀ p ∈ usesP x, 0 ≤ p → v.get p = v'.get p := fun p hp h0 => ha.get p h0 ((needed_closed F).use i x p hx hp)
    have hrest : x.code ≠ 4 ∧ x.code ≠ 8 → (∀ w w', Alike F (i + 1) w w' → ∃ k, r = F.steps.drop k ∧ deadS F (i + 1) r = deadS F k r ∧ Alike F k w w') := fun hc w w' hw => ⟨i + 1, hr2.symm, rfl, hw⟩
    have hjump : (x.code = 4 ∨ x.code = 5) → ∃ k, jumpTo F x.label = F.steps.drop k ∧ jumpTo (deadF F) x.label = deadS F k (jumpTo F x.label) ∧ Alike F k v v' := fun e => by
      obtain ⟨j1, j2, y, j3, j4⟩ := deadF_jump (h.jumps hxm e)
      refine ⟨_, j1, j2, ?_⟩
      have a1 := ha.to h hx (follow_jump hx e) (writes_none (by omega))
      exact a1.to h j3 (follow_next h j3 (by omega)) (writes_none (by omega))
    unfold actL
    by_cases e4 : x.code = 4
    · rw [if_pos e4, if_pos e4]; exact ActSim.go (hjump (Or.inl e4))
    rw [if_neg e4, if_neg e4]
    by_cases e5 : x.code = 5
    · rw [if_pos e5, if_pos e5]
      have hu := huse x.a (by unfold usesP; rw [if_pos (by omega)]; simp) (kind_in (F := F) (by have := hrp.a (by omega); omega)).1
      rw [← hu]
      by_cases e0 : (v.get x.a).n = 0
      · rw [if_pos e0, if_pos e0]; exact ActSim.go (hjump (Or.inr e5))
      · rw [if_neg e0, if_neg e0]
        exact ActSim.go (hrest ⟨e4, by omega⟩ v v' (ha.to h hx (hnext (by omega)) (writes_none (by omega))))
    rw [if_neg e5, if_neg e5]
    by_cases e7 : x.code = 7
    · rw [if_pos e7, if_pos e7]
      obtain ⟨G, hG, hlen, hkd⟩ := hcall e7
      have h0 := args_in h hkd (hL G (List.mem_of_find?_eq_some hG)).kinds
      have hargs : x.args.map v.get = x.args.map v'.get := List.map_congr_left fun p hp => huse p (by unfold usesP; rw [if_neg (by omega), if_neg (by omega), if_neg (by omega), if_pos e7]; exact hp) (h0 p hp)
      rw [hargs]
      exact ActSim.call fun n => hrest ⟨e4, by omega⟩ _ _ (ha.put h hx (hnext (by omega)) (writes_dst (by omega)) (by rw [hv.len]; exact kind_in (F := F) (by have := hrp.dst (by omega); omega)) _)
    rw [if_neg e7, if_neg e7]
    by_cases e8 : x.code = 8
    · rw [if_pos e8, if_pos e8]
      have hu := huse x.a (by unfold usesP; rw [if_pos (by omega)]; simp) (kind_in (F := F) (by have := hrp.a (by omega); omega)).1
      rw [← hu]
      exact ActSim.ret _ _
    rw [if_neg e8, if_neg e8]
    have hu2 : ∀ p ∈ usesP x, v.get p = v'.get p := fun p hp => huse p hp (by
      refine (kind_in (F := F) (p := p) ?_).1
      unfold usesP at hp
      split at hp
      · obtain rfl : p = x.a := by simpa using hp
        by_cases e2 : x.code = 2
        · have := hrp.copy e2; omega
        · by_cases e10 : x.code = 10
          · have := hrp.aA (by omega); omega
          · have := hrp.a (by omega); omega
      split at hp
      · rename_i e3
        simp only [List.mem_cons, List.not_mem_nil, or_false] at hp
        rcases hp with rfl | rfl
        · by_cases e11 : x.code = 11
          · have := hrp.aA (by omega); omega
          · have := hrp.a (by omega); omega
        · have := hrp.b (by omega); omega
      split at hp
      · rename_i e12
        simp only [List.mem_cons, List.not_mem_nil, or_false] at hp
        rcases hp with rfl | rfl | rfl
        · have := hrp.aA (by omega); omega
        · have := hrp.b (by omega); omega
        · have := hrp.c (by omega); omega
      cases hp)
    rcases step_uses (s := s) hu2 e7 with ⟨w, t, h1, h2⟩ | ⟨y, t, hw, h1, h2⟩ | ⟨t, hw, h1, h2⟩
    · rw [h1, h2]; exact ActSim.stop _ _
    · rw [h1, h2]
      refine ActSim.go (hrest ⟨e4, e8⟩ _ _ (ha.put h hx (hnext ⟨e8, e4⟩) (writes_dst (by omega)) ?_ y))
      rw [hv.len]
      refine kind_in (F := F) ?_
      by_cases e2 : x.code = 2
      · exact (hrp.copy e2).1
      · by_cases e9 : x.code = 9
        · have := hrp.dstA e9; omega
        · have := hrp.dst (by omega); omega
    · rw [h1, h2]
      exact ActSim.go (hrest ⟨e4, e8⟩ _ _ (ha.to h hx (hnext ⟨e8, e4⟩) hw))
  · have hp : pureP x = true := by
      cases hp : pureP x with
      | true => rfl
      | false => rw [hp] at hk; exact absurd rfl hk
    obtain ⟨hw, hd, y, hy⟩ := pure_goes (L := L) hrp hp v r s
    have hc := pure_codes hp
    have hn : ¬ Needed F i x.dst := fun e => hk (by
      rw [hw]
      unfold neededB
      simp [e])
    exact Or.inl ⟨r, _, hy, i + 1, hr2.symm, by rw [deadS, if_neg hk], ha.skip h hx (hnext (by omega)) hw hn (by rw [hv.len]; exact kind_in hd) y⟩
end Go.Proofs.YtoajcbfejplfbaaDoor.MidP
namespace Go.Proofs.YtoajcbfejplfbaaDoor.MidP
open Go.RowKit Go.Proofs.YtoajcbfejplfbaaDoor.TreeP
set_option linter.unusedVariables false
set_option linter.unusedSimpArgs false
theorem knownF_pass : Pass knownF := ⟨fun _ => rfl, fun _ => rfl, fun _ => rfl⟩
/-- What is known is of the places' types. -/
structure KTy (F : Fm) (k : Kn) : Prop where
  num : ∀ p n, k.nums p = some n → kindP F p = 1 ∧ N64 n
  same : ∀ p q, k.same p = some q → 0 < kindP F p ∧ kindP F p = kindP F q
/-- What is known is so. -/
structure KOk (k : Kn) (v : Pl) : Prop where
  num : ∀ p n, k.nums p = some n → v.get p = numV n
  same : ∀ p q, k.same p = some q → v.get p = v.get q
theorem KTy.none (F : Fm) : KTy F Kn.none := ⟨(fun p n h => by cases h), (fun p q h => by cases h)⟩
theorem KOk.none (v : Pl) : KOk Kn.none v := ⟨(fun p n h => by cases h), (fun p q h => by cases h)⟩
theorem KTy.fresh {F : Fm} {k : Kn} (h : KTy F k) (x : Stp) : KTy F (freshK k x) := by
  unfold freshK
  split
  · exact KTy.none F
  · exact h
theorem KOk.fresh {k : Kn} {v : Pl} (h : KOk k v) (x : Stp) : KOk (freshK k x) v := by
  unfold freshK
  split
  · exact KOk.none v
  · exact h
theorem KTy.of {F : Fm} {k : Kn} (h : KTy F k) (p : Int) : kindP F (k.of p) = kindP F p := by
  unfold Kn.of
  cases hs : k.same p with
  | none => rfl
  | some q => exact (h.same p q hs).2.symm
theorem KOk.of {k : Kn} {v : Pl} (h : KOk k v) (p : Int) : v.get (k.of p) = v.get p := by
  unfold Kn.of
  cases hs : k.same p with
  | none => rfl
  | some q => exact (h.same p q hs).symm
/-! A step that reads other places. -/
theorem reads_act {F : Fm} {k : Kn} {v : Pl} (h : KOk k v) (x : Stp) (r : List Stp) (s : RS) : actL F v (k.reads x) r s = actL F v x r s := by
  have hargs : (x.args.map k.of).map v.get = x.args.map v.get := by
    rw [List.map_map]
    exact List.map_congr_left fun p _ => h.of p
  unfold actL Kn.reads
  simp only [hargs, h.of]
  by_cases e4 : x.code = 4
  · rw [if_pos e4, if_pos e4]
  rw [if_neg e4, if_neg e4]
  by_cases e5 : x.code = 5
  · rw [if_pos e5, if_pos e5]
  rw [if_neg e5, if_neg e5]
  by_cases e7 : x.code = 7
  · rw [if_pos e7, if_pos e7]
  rw [if_neg e7, if_neg e7]
  by_cases e8 : x.code = 8
  · rw [if_pos e8, if_pos e8]
  rw [if_neg e8, if_neg e8]
  unfold stepM
  simp only [h.of]
theorem reads_right {L : List Fm} {F : Fm} {k : Kn} (h : KTy F k) {x : Stp} (hr : rightB L F x = true) : rightB L F (k.reads x) = true := by
  have hargs : (x.args.map k.of).map (kindP F) = x.args.map (kindP F) := by
    rw [List.map_map]
    exact List.map_congr_left fun p _ => h.of p
  have hf : ∀ t p, fitB F t (k.of p) = fitB F t p := fun t p => by unfold fitB; rw [h.of]
  unfold rightB at hr ⊢
  unfold Kn.reads
  simp only [hf, h.of, hargs, List.length_map]
  exact hr
/-! A step that is known. -/
theorem turn_cases (s : Stp) (A B : Option Int) :
    (∃ a, s.code = 2 ∧ A = some a ∧ turnP s A B = constP s.dst a) ∨ (s.code = 5 ∧ A = some 0 ∧ turnP s A B = jumpP s.label) ∨
    (∃ a b, s.code = 3 ∧ A = some a ∧ B = some b ∧ (bothP s.op a b).2 = 0 ∧ turnP s A B = constP s.dst (bothP s.op a b).1) ∨
    (s.code = 3 ∧ ((B = some 0 ∧ (s.op = [43] ∨ s.op = [45])) ∨ (B = some 1 ∧ (s.op = [42] ∨ s.op = [47]))) ∧ turnP s A B = copyP s.dst s.a) ∨
    (s.code = 3 ∧ ((A = some 0 ∧ s.op = [43]) ∨ (A = some 1 ∧ s.op = [42])) ∧ turnP s A B = copyP s.dst s.b) ∨ turnP s A B = s := by
  obtain ⟨t, ht⟩ : ∃ t, t = turnP s A B := ⟨_, rfl⟩
  rw [← ht]
  unfold turnP at ht
  split at ht
  · rename_i h
    cases A with
    | none => simp at h
    | some a => exact Or.inl ⟨a, h.1, rfl, ht⟩
  split at ht
  · rename_i h
    exact Or.inr (Or.inl ⟨h.1, h.2, ht⟩)
  split at ht
  · rename_i h
    cases A with
    | none => simp at h
    | some a =>
      cases B with
      | none => simp at h
      | some b =>
        split at ht
        · rename_i h2
          exact Or.inr (Or.inr (Or.inl ⟨a, b, h.1, rfl, rfl, h2, ht⟩))
        · exact Or.inr (Or.inr (Or.inr (Or.inr (Or.inr ht))))
  split at ht
  · rename_i h
    exact Or.inr (Or.inr (Or.inr (Or.inl ⟨h.1, h.2, ht⟩)))
  split at ht
  · rename_i h
    exact Or.inr (Or.inr (Or.inr (Or.inr (Or.inl ⟨h.1, h.2, ht⟩))))
  · exact Or.inr (Or.inr (Or.inr (Or.inr (Or.inr ht))))
theorem wrap_n64 {a : Int} (h : N64 a) : wrap64 a = a := by
  unfold N64 at h
  unfold wrap64
  omega
theorem num_eta {y : V} (h : y.arr = none ∧ N64 y.n) : y = numV y.n := by
  obtain ⟨n, a⟩ := y
  obtain ⟨h1, -⟩ := h
  simp only at h1
  subst h1
  rfl
theorem act_const {F : Fm} {v : Pl} {d n : Int} {r : List Stp} {s : RS} : actL F v (constP d n) r s = .go r (v.put d (numV n)) s := by
  unfold actL constP stepM
  rfl
theorem act_copy {F : Fm} {v : Pl} {d a : Int} {r : List Stp} {s : RS} : actL F v (copyP d a) r s = .go r (v.put d (v.get a)) s := by
  unfold actL copyP stepM
  rfl
theorem act_two {F : Fm} {v : Pl} {x : Stp} {r : List Stp} {s : RS} (h : x.code = 3) (hb : (bothP x.op (v.get x.a).n (v.get x.b).n).2 = 0) : actL F v x r s = .go r (v.put x.dst (numV (bothP x.op (v.get x.a).n (v.get x.b).n).1)) s := by
  unfold actL stepM
  rw [if_neg (by omega), if_neg (by omega), if_neg (by omega), if_neg (by omega), if_neg (by omega), if_neg (by omega), if_pos h, if_neg (by rw [hb]; simp)]
  rfl
theorem turn_act {L : List Fm} {F : Fm} {v : Pl} {x : Stp} {A B : Option Int} (hr : RightP F x) (hv : TyP F v) (hA : ∀ a, A = some a → v.get x.a = numV a) (hB : ∀ b, B = some b → v.get x.b = numV b) (r : List Stp) (s : RS) : actL F v (turnP x A B) r s = actL F v x r s := by
  rcases turn_cases x A B with ⟨a, h1, h2, h3⟩ | ⟨h1, h2, h3⟩ | ⟨a, b, h1, h2, h3, h4, h5⟩ | ⟨h1, h2, h3⟩ | ⟨h1, h2, h3⟩ | h3
  · rw [h3, act_const]
    unfold actL stepM
    rw [if_neg (by omega), if_neg (by omega), if_neg (by omega), if_neg (by omega), if_neg (by omega), if_pos h1, hA a h2]
    rfl
  · rw [h3]
    unfold actL
    rw [if_pos (show (jumpP x.label).code = 4 from rfl), if_neg (by omega), if_pos h1, hA 0 h2, if_pos (show (numV 0).n = 0 from rfl)]
    rfl
  · rw [h5, act_const, act_two h1 (by rw [hA a h2, hB b h3]; exact h4), hA a h2, hB b h3]
    rfl
  · have ha := hv.num _ (hr.a (by omega))
    have hb : v.get x.a = numV (bothP x.op (v.get x.a).n (v.get x.b).n).1 ∧ (bothP x.op (v.get x.a).n (v.get x.b).n).2 = 0 := by
      have e := num_eta ha
      have e2 := wrap_n64 ha.2
      generalize (v.get x.a).n = n at *
      rcases h2 with ⟨hb, ho | ho⟩ | ⟨hb, ho | ho⟩
      · rw [hB _ hb, ho]; exact ⟨by rw [e]; show _ = numV (wrap64 (n + 0)); rw [Int.add_zero, e2], rfl⟩
      · rw [hB _ hb, ho]; exact ⟨by rw [e]; show _ = numV (wrap64 (n - 0)); rw [Int.sub_zero, e2], rfl⟩
      · rw [hB _ hb, ho]; exact ⟨by rw [e]; show _ = numV (wrap64 (n * 1)); rw [Int.mul_one, e2], rfl⟩
      · rw [hB _ hb, ho]; exact ⟨by rw [e]; show _ = numV (wrap64 (n.tdiv 1)); rw [Int.tdiv_one, e2], rfl⟩
    rw [h3, act_copy, act_two h1 hb.2, ← hb.1]
  · have ha := hv.num _ (hr.b (by omega))
    have hb : v.get x.b = numV (bothP x.op (v.get x.a).n (v.get x.b).n).1 ∧ (bothP x.op (v.get x.a).n (v.get x.b).n).2 = 0 := by
      have e := num_eta ha
      have e2 := wrap_n64 ha.2
      generalize (v.get x.b).n = n at *
      rcases h2 with ⟨hb, ho⟩ | ⟨hb, ho⟩
      · rw [hA _ hb, ho]; exact ⟨by rw [e]; show _ = numV (wrap64 (0 + n)); rw [Int.zero_add, e2], rfl⟩
      · rw [hA _ hb, ho]; exact ⟨by rw [e]; show _ = numV (wrap64 (1 * n)); rw [Int.one_mul, e2], rfl⟩
    rw [h3, act_copy, act_two h1 hb.2, ← hb.1]
  · rw [h3]
/-- What is known step by step does what the step does. -/
theorem known_act {L : List Fm} {F : Fm} {k : Kn} {v : Pl} {x : Stp} (hr : rightB L F x = true) (hv : TyP F v) (ht : KTy F k) (hk : KOk k v) (r : List Stp) (s : RS) : actL F v (k.step x) r s = actL F v x r s := by
  unfold Kn.step
  rw [turn_act (L := L) (x := k.reads x) (A := k.nums (k.of x.a)) (B := k.nums (k.of x.b)) (right_parts (reads_right ht hr)).1 hv (fun a h => hk.num _ _ h) (fun b h => hk.num _ _ h), reads_act hk]
/-! It is right. -/
theorem right_const {L : List Fm} {F : Fm} {d n : Int} (h : kindP F d = 1) : rightB L F (constP d n) = true := by
  have h0 : fitB F 0 0 = true := rfl
  have h1 : fitB F 1 d = true := by unfold fitB; rw [h]; rfl
  show (if (1 : Int) = 2 then _ else if (1 : Int) = 7 then _ else if (1 : Int) < 1 ∨ (1 : Int) > 14 then false else fitB F 1 d && fitB F 0 0 && fitB F 0 0 && fitB F 0 0 && true && true) = true
  rw [if_neg (by decide), if_neg (by decide), if_neg (by decide), h0, h1]
  rfl
theorem right_copy' {L : List Fm} {F : Fm} {d a : Int} (h : 0 < kindP F d) (h2 : kindP F d = kindP F a) : rightB L F (copyP d a) = true := by
  unfold rightB copyP
  rw [if_pos rfl]
  simp only
  rw [← h2]
  simp
  exact h
theorem right_jump {L : List Fm} {F : Fm} {l : Int} (h : hasLabel F l = true) : rightB L F (jumpP l) = true := by
  have h0 : fitB F 0 0 = true := rfl
  show (if (4 : Int) = 2 then _ else if (4 : Int) = 7 then _ else if (4 : Int) < 1 ∨ (4 : Int) > 14 then false else fitB F 0 0 && fitB F 0 0 && fitB F 0 0 && fitB F 0 0 && (false || hasLabel F l) && true) = true
  rw [if_neg (by decide), if_neg (by decide), if_neg (by decide), h0, h]
  rfl
theorem turn_right {L : List Fm} {F : Fm} {x : Stp} {A B : Option Int} (hr : rightB L F x = true) (hn : N64 x.n) (hA : ∀ a, A = some a → kindP F x.a = 1 ∧ N64 a) (hB : ∀ b, B = some b → kindP F x.b = 1 ∧ N64 b) : rightB L F (turnP x A B) = true ∧ N64 (turnP x A B).n := by
  have hp := (right_parts hr).1
  have h0 : N64 0 := by unfold N64; omega
  rcases turn_cases x A B with ⟨a, h1, h2, h3⟩ | ⟨h1, h2, h3⟩ | ⟨a, b, h1, h2, h3, h4, h5⟩ | ⟨h1, h2, h3⟩ | ⟨h1, h2, h3⟩ | h3
  · rw [h3]; exact ⟨right_const (by rw [(hp.copy h1).2]; exact (hA a h2).1), (hA a h2).2⟩
  · rw [h3]; exact ⟨right_jump (hp.lab (by omega)), h0⟩
  · rw [h5]; exact ⟨right_const (hp.dst (by omega)), both_n64 (hA a h2).2 (hB b h3).2⟩
  · rw [h3]; exact ⟨right_copy' (by rw [hp.dst (by omega)]; decide) (by rw [hp.dst (by omega), hp.a (by omega)]), h0⟩
  · rw [h3]; exact ⟨right_copy' (by rw [hp.dst (by omega)]; decide) (by rw [hp.dst (by omega), hp.b (by omega)]), h0⟩
  · rw [h3]; exact ⟨hr, hn⟩
theorem known_right {L : List Fm} {F : Fm} {k : Kn} {x : Stp} (hr : rightB L F x = true) (hn : N64 x.n) (ht : KTy F k) : rightB L F (k.step x) = true ∧ N64 (k.step x).n := by
  unfold Kn.step
  exact turn_right (reads_right ht hr) hn (fun a h => ht.num _ _ h) (fun b h => ht.num _ _ h)
/-! What is learnt. -/
theorem forget_ty {F : Fm} {k : Kn} (h : KTy F k) (p : Int) : KTy F (k.forget p) := by
  refine ⟨fun q n e => ?_, fun q r e => ?_⟩
  · unfold Kn.forget delO at e
    simp only at e
    split at e
    · cases e
    · exact h.num q n e
  · unfold Kn.forget dropO delO at e
    simp only at e
    split at e
    · cases e
    split at e
    · cases e
    · exact h.same q r e
theorem learn_ty {L : List Fm} {F : Fm} {k : Kn} (h : KTy F k) {x : Stp} (hr : rightB L F x = true) (hn : N64 x.n) : KTy F (k.learn x) := by
  have hp := (right_parts hr).1
  have hf := forget_ty h (writesP x)
  unfold Kn.learn
  split
  · exact h
  split
  · rename_i e1
    have hw : writesP x = x.dst := writes_dst (by omega)
    refine ⟨fun q n e => ?_, hf.same⟩
    unfold setO at e
    simp only at e
    split at e
    · rename_i hq
      rw [hq, hw]
      obtain rfl := Option.some.inj e
      exact ⟨hp.dst (by omega), hn⟩
    · exact hf.num q n e
  split
  · rename_i e2
    have hw : writesP x = x.dst := writes_dst (by omega)
    refine ⟨hf.num, fun q r e => ?_⟩
    unfold setO at e
    simp only at e
    split at e
    · rename_i hq
      rw [hq, hw]
      obtain rfl := Option.some.inj e
      exact hp.copy e2.1
    · exact hf.same q r e
  · exact hf
theorem forget_ok {F : Fm} {k : Kn} {v : Pl} (ht : KTy F k) (h : KOk k v) {p : Int} (hp : 0 ≤ p ∧ p.toNat < v.length) (y : V) : KOk (k.forget p) (v.put p y) := by
  refine ⟨fun q n e => ?_, fun q r e => ?_⟩
  · unfold Kn.forget delO at e
    simp only at e
    split at e
    · cases e
    · rename_i hq
      rw [get_put hp (kind_in (F := F) (by have := (ht.num q n e).1; omega)).1, if_neg hq]
      exact h.num q n e
  · unfold Kn.forget dropO delO at e
    simp only at e
    by_cases hq : q = p
    · rw [if_pos hq, if_neg (by simp)] at e
      cases e
    · rw [if_neg hq] at e
      split at e
      · cases e
      rename_i hd
      rw [e] at hd
      have hk := ht.same q r e
      rw [get_put hp (kind_in (F := F) (by omega)).1, if_neg hq, get_put hp (kind_in (F := F) (by omega)).1, if_neg (fun c => hd (by rw [c]))]
      exact h.same q r e
theorem learn_none {k : Kn} {x : Stp} (h : writesP x = -1) : k.learn x = k := by
  unfold Kn.learn
  rw [if_pos (by omega)]
/-- What is learnt of a step that has written is so. -/
theorem learn_ok {L : List Fm} {F : Fm} {k : Kn} {v : Pl} (ht : KTy F k) (h : KOk k v) (hv : TyP F v) {x : Stp} (hr : rightB L F x = true) (hd : 0 < kindP F x.dst) (hc : x.code = 1 ∨ x.code = 2 ∨ x.code = 3 ∨ x.code = 7 ∨ x.code = 9 ∨ x.code = 10 ∨ x.code = 11 ∨ x.code = 14) {y : V} (hy1 : x.code = 1 → y = numV x.n) (hy2 : x.code = 2 → y = v.get x.a) : KOk (k.learn x) (v.put x.dst y) := by
  have hp := (right_parts hr).1
  have hw : writesP x = x.dst := writes_dst hc
  have hin := kind_in hd
  have hin' : 0 ≤ x.dst ∧ x.dst.toNat < v.length := by rw [hv.len]; exact hin
  have hf := forget_ok ht h hin' y
  unfold Kn.learn
  rw [hw, if_neg (by omega)]
  split
  · rename_i e1
    refine ⟨fun q n e => ?_, hf.same⟩
    unfold setO at e
    simp only at e
    split at e
    · rename_i hq
      obtain rfl := Option.some.inj e
      rw [hq, get_put hin' hin.1, if_pos rfl, hy1 e1]
    · exact hf.num q n e
  split
  · rename_i e2
    refine ⟨hf.num, fun q r e => ?_⟩
    unfold setO at e
    simp only at e
    split at e
    · rename_i hq
      obtain rfl := Option.some.inj e
      have hk := hp.copy e2.1
      rw [hq, get_put hin' hin.1, if_pos rfl, get_put hin' (kind_in (F := F) (p := x.a) (by omega)).1, if_neg e2.2, hy2 e2.1]
    · exact hf.same q r e
  · exact hf
/-! A function of which what can be known is known. -/
theorem idle_code {k : Kn} {t : Stp} (h : idle k t = true) : t.code = 5 ∧ ∃ a, k.nums t.a = some a ∧ a ≠ 0 := by
  unfold idle at h
  simp only [Bool.and_eq_true, beq_iff_eq] at h
  refine ⟨h.1, ?_⟩
  have h2 := h.2
  cases hn : k.nums t.a with
  | none => rw [hn] at h2; cases h2
  | some a => rw [hn] at h2; exact ⟨a, rfl, by simpa using h2⟩
theorem step_code6 {k : Kn} {x : Stp} : ((k.step x).code = 6 ↔ x.code = 6) ∧ (x.code = 6 → (k.step x).label = x.label) ∧ ((k.step x).code = 8 ↔ x.code = 8) ∧ (x.code = 4 → (k.step x).code = 4) ∧ ((k.step x).code = 4 ∨ (k.step x).code = 5 → (x.code = 4 ∨ x.code = 5) ∧ (k.step x).label = x.label) := by
  unfold Kn.step
  have hc : (k.reads x).code = x.code := rfl
  have hl : (k.reads x).label = x.label := rfl
  rcases turn_cases (k.reads x) (k.nums (k.of x.a)) (k.nums (k.of x.b)) with ⟨a, h1, h2, h3⟩ | ⟨h1, h2, h3⟩ | ⟨a, b, h1, h2, h3, h4, h3⟩ | ⟨h1, h2, h3⟩ | ⟨h1, h2, h3⟩ | h3
  all_goals rw [h3]
  all_goals simp only [constP, jumpP, copyP, hc, hl] at *
  all_goals refine ⟨by omega, by first | omega | (intro; first | rfl | omega), by omega, by omega, by first | omega | (intro e; exact ⟨by omega, by first | rfl | omega⟩)⟩
theorem known_append : (a : List Stp) → ∀ k, ∃ k' A, ∀ b, knownS k (a ++ b) = A ++ knownS k' b
  | [], k => ⟨k, [], fun _ => rfl⟩
  | s :: r, k => by
    by_cases h : idle (freshK k s) ((freshK k s).step s) = true
    · obtain ⟨k', A, hA⟩ := known_append r (freshK k s)
      exact ⟨k', A, fun b => by rw [List.cons_append, knownS, if_pos h, hA]⟩
    · obtain ⟨k', A, hA⟩ := known_append r ((freshK k s).learn ((freshK k s).step s))
      exact ⟨k', (freshK k s).step s :: A, fun b => by rw [List.cons_append, knownS, if_neg h, hA]; rfl⟩
theorem known_labs : (a : List Stp) → ∀ k, labs (knownS k a) = labs a
  | [], _ => rfl
  | s :: r, k => by
    rw [knownS]
    have h6 := (step_code6 (k := freshK k s) (x := s))
    split
    · rename_i h
      have := (idle_code h).1
      rw [known_labs r, labs_cons, if_neg (fun e => by have := h6.1.2 e; omega)]
      rfl
    · rw [labs_cons, labs_cons, known_labs r]
      congr 1
      by_cases e : s.code = 6
      · rw [if_pos (h6.1.2 e), if_pos e, h6.2.1 e]
      · rw [if_neg (fun c => e (h6.1.1 c)), if_neg e]
theorem known_lab (k : Kn) {x : Stp} {r : List Stp} (h : x.code = 6) : knownS k (x :: r) = x :: knownS Kn.none r := by
  have hf : freshK k x = Kn.none := by unfold freshK; rw [if_pos h]
  have hof : Kn.none.of = id := by funext p; rfl
  have hs : Kn.none.step x = x := by
    unfold Kn.step
    have hr : Kn.none.reads x = x := by
      unfold Kn.reads
      rw [hof]
      simp
    rw [hr]
    unfold turnP
    rw [if_neg (by omega), if_neg (by omega), if_neg (by omega), if_neg (by omega), if_neg (by omega)]
  rw [knownS, hf, hs, if_neg, learn_none (writes_none (by omega))]
  intro e
  have := (idle_code e).1
  omega
theorem knownF_jump {F : Fm} {l : Int} (h : l ∈ labs F.steps) : jumpTo (knownF F) l = knownS Kn.none (jumpTo F l) := by
  obtain ⟨pre, x, post, h1, h2, h3, h4⟩ := lab_split F.steps h
  rw [(jumpTo_split h1 ⟨h2, h3⟩ h4).2]
  obtain ⟨k', A, hA⟩ := known_append pre Kn.none
  have h5 : (knownF F).steps = A ++ x :: knownS Kn.none post := by
    show knownS Kn.none F.steps = _
    rw [h1, hA, known_lab _ h2]
  exact (jumpTo_split h5 ⟨h2, h3⟩ ((noLab_iff _ _).2 (by rw [known_labs]; exact (noLab_iff _ _).1 h4))).2
/-- Every step of what is known is a right one. -/
theorem known_steps {L : List Fm} {F : Fm} : (l : List Stp) → (∀ x ∈ l, rightB L F x = true ∧ N64 x.n) → ∀ k, KTy F k → ∀ y ∈ knownS k l, rightB L F y = true ∧ N64 y.n ∧ ((y.code = 4 ∨ y.code = 5) → ∃ x ∈ l, (x.code = 4 ∨ x.code = 5) ∧ y.label = x.label)
  | [], _, _, _, y, hy => by cases hy
  | s :: r, hl, k, hk, y, hy => by
    have hs := hl s List.mem_cons_self
    have hkr := known_right hs.1 hs.2 (hk.fresh s)
    rw [knownS] at hy
    have up : ∀ {k'}, KTy F k' → y ∈ knownS k' r → rightB L F y = true ∧ N64 y.n ∧ ((y.code = 4 ∨ y.code = 5) → ∃ x ∈ s :: r, (x.code = 4 ∨ x.code = 5) ∧ y.label = x.label) := fun hk' hy' => by
      obtain ⟨h1, h2, h3⟩ := known_steps r (fun x hx => hl x (List.mem_cons_of_mem _ hx)) _ hk' y hy'
      exact ⟨h1, h2, fun e => by obtain ⟨x, hx, h⟩ := h3 e; exact ⟨x, List.mem_cons_of_mem _ hx, h⟩⟩
    split at hy
    · exact up (hk.fresh s) hy
    · rcases List.mem_cons.1 hy with rfl | hy
      · exact ⟨hkr.1, hkr.2, fun e => ⟨s, List.mem_cons_self, (step_code6.2.2.2.2 e)⟩⟩
      · exact up (learn_ty (hk.fresh s) hkr.1 hkr.2) hy
theorem knownS_len : (l : List Stp) → ∀ k, (knownS k l).length ≤ l.length
  | [], _ => Nat.le_refl _
  | s :: r, k => by
    rw [knownS]
    split
    · have := knownS_len r (freshK k s)
      rw [List.length_cons]; omega
    · have := knownS_len r ((freshK k s).learn ((freshK k s).step s))
      rw [List.length_cons, List.length_cons]; omega
theorem knownF_right {L : List Fm} {F : Fm} (h : FnR L F) (hn : ∀ x ∈ F.steps, N64 x.n) : FnR (L.map knownF) (knownF F) ∧ ∀ x ∈ (knownF F).steps, N64 x.n := by
  have hst := known_steps (L := L) (F := F) F.steps (fun x hx => ⟨h.steps x hx, hn x hx⟩) Kn.none (KTy.none F)
  have hlast : ∃ s, (knownS Kn.none F.steps).getLast? = some s ∧ (s.code = 8 ∨ s.code = 4) := by
    obtain ⟨s, h1, h2⟩ := h.last
    obtain ⟨m, hm⟩ := List.getLast?_eq_some_iff.1 h1
    obtain ⟨k', A, hA⟩ := known_append m Kn.none
    rw [hm, hA, knownS, if_neg, knownS]
    · refine ⟨(freshK k' s).step s, by simp, ?_⟩
      have h6 := step_code6 (k := freshK k' s) (x := s)
      rcases h2 with e | e
      · exact Or.inl (h6.2.2.1.2 e)
      · exact Or.inr (h6.2.2.2.1 e)
    · intro e
      have h6 := step_code6 (k := freshK k' s) (x := s)
      have h7 := (idle_code e).1
      rcases h2 with e | e
      · have := h6.2.2.1.2 e; omega
      · have := h6.2.2.2.1 e; omega
  refine ⟨⟨h.types, ?_, Nat.le_trans (knownS_len _ _) h.len, hlast, h.kinds, ?_, fun x hx => ?_⟩, fun x hx => (hst x hx).2.1⟩
  · obtain ⟨s, h1, -⟩ := hlast
    show 1 ≤ (knownS Kn.none F.steps).length
    cases he : knownS Kn.none F.steps with
    | nil => rw [he] at h1; cases h1
    | cons a r => simp
  · show (labs (knownS Kn.none F.steps)).Nodup
    rw [known_labs]
    exact h.once
  · refine pass_right knownF_pass (hst x hx).1 fun e => (has_iff _ _).2 ?_
    show x.label ∈ labs (knownS Kn.none F.steps)
    obtain ⟨y, hy, h1, h2⟩ := (hst x hx).2.2 e
    rw [known_labs, h2]
    exact h.jumps hy h1
theorem knownF_sim {L : List Fm} {F : Fm} (h : FnR L F) (hn : ∀ x ∈ F.steps, N64 x.n) : Sim F (knownF F) (fun l v l' v' => v' = v ∧ ∃ k, KTy F k ∧ KOk k v ∧ l' = knownS k l) := by
  refine ⟨fun v _ => ⟨rfl, Kn.none, KTy.none F, KOk.none v, rfl⟩, fun v l' v' ⟨_, k, _, _, h⟩ => h, ?_⟩
  rintro x r v l' v' s ⟨rfl, k0, ht0, hk0, rfl⟩ hsu hv hs
  have hxm : x ∈ F.steps := hsu.subset List.mem_cons_self
  have hr := h.steps x hxm
  have ht := ht0.fresh x
  have hk := hk0.fresh x
  have hact := known_act hr hv ht hk r s
  have hkr := known_right hr (hn x hxm) ht
  rw [knownS]
  generalize freshK k0 x = k at *
  rw [← hact]
  by_cases hi : idle k (k.step x) = true
  · rw [if_pos hi]
    obtain ⟨h5, a, ha, ha0⟩ := idle_code hi
    refine Or.inl ⟨r, v', ?_, rfl, k, ht, hk, rfl⟩
    unfold actL
    rw [if_neg (by omega), if_pos h5, hk.num _ _ ha, if_neg (show ¬ (numV a).n = 0 from ha0)]
  · rw [if_neg hi]
    have hlab : ((k.step x).code = 4 ∨ (k.step x).code = 5) → jumpTo (knownF F) (k.step x).label = knownS Kn.none (jumpTo F (k.step x).label) := fun e => by
      obtain ⟨h1, h2⟩ := step_code6.2.2.2.2 e
      rw [h2]
      exact knownF_jump (h.jumps hxm h1)
    refine Or.inr ⟨k.step x, _, rfl, ?_⟩
    generalize k.step x = t at *
    obtain ⟨hrt, hnt⟩ := hkr
    have hp := (right_parts hrt).1
    have hlt := learn_ty ht hrt hnt
    have hjump : (t.code = 4 ∨ t.code = 5) → v' = v' ∧ ∃ k, KTy F k ∧ KOk k v' ∧ jumpTo (knownF F) t.label = knownS k (jumpTo F t.label) := fun e => ⟨rfl, Kn.none, KTy.none F, KOk.none v', hlab e⟩
    have hstay : writesP t = -1 → v' = v' ∧ ∃ k', KTy F k' ∧ KOk k' v' ∧ knownS (k.learn t) r = knownS k' r := fun e => ⟨rfl, k, ht, hk, by rw [learn_none e]⟩
    unfold actL
    by_cases e4 : t.code = 4
    · rw [if_pos e4, if_pos e4]; exact ActSim.go (hjump (Or.inl e4))
    rw [if_neg e4, if_neg e4]
    by_cases e5 : t.code = 5
    · rw [if_pos e5, if_pos e5]
      by_cases e0 : (v'.get t.a).n = 0
      · rw [if_pos e0, if_pos e0]; exact ActSim.go (hjump (Or.inr e5))
      · rw [if_neg e0, if_neg e0]; exact ActSim.go (hstay (writes_none (by omega)))
    rw [if_neg e5, if_neg e5]
    by_cases e7 : t.code = 7
    · rw [if_pos e7, if_pos e7]
      exact ActSim.call fun n => ⟨rfl, _, hlt, learn_ok ht hk hv hrt (by have := hp.dst (by omega); omega) (by omega) (by omega) (by omega), rfl⟩
    rw [if_neg e7, if_neg e7]
    by_cases e8 : t.code = 8
    · rw [if_pos e8, if_pos e8]; exact ActSim.ret _ _
    rw [if_neg e8, if_neg e8]
    have hd : (t.code = 1 ∨ t.code = 2 ∨ t.code = 3 ∨ t.code = 9 ∨ t.code = 10 ∨ t.code = 11 ∨ t.code = 14) → 0 < kindP F t.dst := fun e => by
      by_cases e2 : t.code = 2
      · exact (hp.copy e2).1
      · by_cases e9 : t.code = 9
        · have := hp.dstA e9; omega
        · have := hp.dst (by omega); omega
    by_cases e1 : t.code = 1
    · unfold stepM
      rw [if_pos e1]
      exact ActSim.go ⟨rfl, _, hlt, learn_ok ht hk hv hrt (hd (by omega)) (by omega) (fun _ => rfl) (by omega), rfl⟩
    by_cases e2 : t.code = 2
    · unfold stepM
      rw [if_neg e1, if_pos e2]
      exact ActSim.go ⟨rfl, _, hlt, learn_ok ht hk hv hrt (hd (by omega)) (by omega) (by omega) (fun _ => rfl), rfl⟩
    rcases step_uses (s := s) (v := v') (v' := v') (x := t) (fun _ _ => rfl) e7 with ⟨w, t', h1, -⟩ | ⟨y, t', hw, h1, -⟩ | ⟨t', hw, h1, -⟩
    · rw [h1]; exact ActSim.stop _ _
    · rw [h1]; exact ActSim.go ⟨rfl, _, hlt, learn_ok ht hk hv hrt (hd hw) (by omega) (by omega) (by omega), rfl⟩
    · rw [h1]; exact ActSim.go (hstay hw)
end Go.Proofs.YtoajcbfejplfbaaDoor.MidP
namespace Go.Proofs.YtoajcbfejplfbaaDoor.MidP
open Go.RowKit Go.Proofs.YtoajcbfejplfbaaDoor.TreeP
set_option linter.unusedVariables false
set_option linter.unusedSimpArgs false
/-- A way to write functions anew that keeps what is right, how it ends, and makes nothing longer. -/
structure Keeps (T : Fm → Fm) : Prop where
  pass : Pass T
  good : ∀ L, Good L → Good (L.map T)
  run : ∀ L, Good L → ∀ given, (∀ x ∈ given, N64 x) → ∀ f fuel x, runM L f given fuel = some x → x.1 ≠ 6 → ∃ f', runM (L.map T) f' given fuel = some x
  len : ∀ F, (T F).steps.length ≤ F.steps.length
  lab : ∀ F, labs (T F).steps ⊆ labs F.steps
theorem Keeps.comp {T U : Fm → Fm} (hT : Keeps T) (hU : Keeps U) : Keeps (fun F => U (T F)) := by
  have e : ∀ L : List Fm, L.map (fun F => U (T F)) = (L.map T).map U := fun L => by rw [List.map_map]; rfl
  refine ⟨⟨fun F => by rw [hU.pass.name, hT.pass.name], fun F => by rw [hU.pass.types, hT.pass.types], fun F => by rw [hU.pass.params, hT.pass.params]⟩, fun L h => by rw [e]; exact hU.good _ (hT.good _ h), fun L h given hg f fuel x hx h6 => ?_, fun F => Nat.le_trans (hU.len _) (hT.len _), fun F => List.Subset.trans (hU.lab _) (hT.lab _)⟩
  obtain ⟨f1, h1⟩ := hT.run L h given hg f fuel x hx h6
  rw [e]
  exact hU.run _ (hT.good _ h) given hg f1 fuel x h1 h6
theorem known_keeps : Keeps knownF :=
  ⟨knownF_pass, fun L h => pass_good knownF_pass h fun F hF => knownF_right (h.code.2.2.1 F hF) (h.n64 F hF), fun L h given hg f fuel x hx h6 => pass_run knownF_pass h.rightF (fun F hF => knownF_sim (h.code.2.2.1 F hF) (h.n64 F hF)) h.main hg hx h6, fun F => knownS_len _ _, fun F => by
    show labs (knownS Kn.none F.steps) ⊆ _
    rw [known_labs]
    exact List.Subset.refl _⟩
theorem dead_keeps : Keeps deadF :=
  ⟨deadF_pass, fun L h => pass_good deadF_pass h fun F hF => ⟨deadF_right (h.code.2.2.1 F hF), fun x hx => h.n64 F hF x ((dead_sub F _ _).subset hx)⟩, fun L h given hg f fuel x hx h6 => pass_run deadF_pass h.rightF (fun F hF => deadF_sim h.code.2.2.1 hF) h.main hg hx h6, fun F => (dead_sub F _ _).length_le, fun F => by
    show labs (deadS F 0 F.steps) ⊆ _
    rw [dead_labs]
    exact List.Subset.refl _⟩
theorem on_keeps : Keeps onF :=
  ⟨onF_pass, fun L h => pass_good onF_pass h fun F hF => ⟨onF_right (h.code.2.2.1 F hF), fun x hx => h.n64 F hF x ((onS_sub _ _).subset hx)⟩, fun L h given hg f fuel x hx h6 => pass_run onF_pass h.rightF (fun F hF => onF_sim (h.code.2.2.1 F hF)) h.main hg hx h6, fun F => (onS_sub _ _).length_le, fun F => by
    show labs (onS true F.steps) ⊆ _
    rw [onS_labs]
    exact List.Subset.refl _⟩
theorem jump_keeps : Keeps jumpF :=
  ⟨jumpF_pass, fun L h => pass_good jumpF_pass h fun F hF => ⟨jumpF_right (h.code.2.2.1 F hF), fun x hx => h.n64 F hF x ((jumpS_sub _).subset hx)⟩, fun L h given hg f fuel x hx h6 => pass_run jumpF_pass h.rightF (fun F hF => jumpF_sim (h.code.2.2.1 F hF)) h.main hg hx h6, fun F => (jumpS_sub _).length_le, fun F => by
    show labs (jumpS F.steps) ⊆ _
    rw [jumpS_labs]
    exact List.Subset.refl _⟩
theorem spare_keeps : Keeps spareF :=
  ⟨spareF_pass, fun L h => pass_good spareF_pass h fun F hF => ⟨spareF_right (h.code.2.2.1 F hF), fun x hx => h.n64 F hF x (List.mem_filter.1 hx).1⟩, fun L h given hg f fuel x hx h6 => pass_run spareF_pass h.rightF (fun F hF => spareF_sim (h.code.2.2.1 F hF)) h.main hg hx h6, fun F => List.length_filter_le _ _, fun F => by
    show labs (F.steps.filter _) ⊆ _
    exact ((List.filter_sublist.filter _).map _).subset⟩
theorem reached_keeps : Keeps reachedF := by
  have e : reachedF = fun F => spareF ((fun F => jumpF (onF F)) F) := by funext F; exact reachedF_eq F
  rw [e]
  exact (on_keeps.comp jump_keeps).comp spare_keeps
theorem one_keeps : Keeps foldOne := by
  have e : foldOne = fun F => reachedF ((fun F => deadF (knownF F)) F) := by funext F; rw [foldOne]
  rw [e]
  exact (known_keeps.comp dead_keeps).comp reached_keeps
theorem fold_keeps : Keeps foldF := by
  have e : foldF = fun F => foldOne ((fun F => foldOne ((fun F => foldOne (foldOne F)) F)) F) := by funext F; rw [foldF]
  rw [e]
  exact ((one_keeps.comp one_keeps).comp one_keeps).comp one_keeps
/-! What is known is not reckoned. -/
/-- Steps that reckon with numbers that are known, one behind the other: step i is place i's number. -/
structure Lin (l : List Stp) (vals : List Int) : Prop where
  len : l.length = vals.length
  n64 : ∀ v ∈ vals, N64 v
  step : ∀ (i : Nat) (s : Stp), l[i]? = some s → s.dst = (i : Int) ∧ N64 s.n ∧ s.args = [] ∧
    ((s.code = 1 ∧ vals[i]? = some s.n) ∨ (∃ a : Nat, s.code = 2 ∧ s.a = (a : Int) ∧ a < i ∧ vals[i]? = vals[a]?) ∨
      (∃ (a b : Nat) (x y z : Int), s.code = 3 ∧ s.op ∈ opList ∧ s.a = (a : Int) ∧ s.b = (b : Int) ∧ a < i ∧ b < i ∧ vals[a]? = some x ∧ vals[b]? = some y ∧ vals[i]? = some z ∧ bothP s.op x y = (z, 0)))
/-- The numbers of the first places are known. -/
structure KLin (vals : List Int) (i : Nat) (k : Kn) : Prop where
  num : ∀ a : Nat, a < i → k.nums (a : Int) = vals[a]?
  same : ∀ p, k.same p = none
theorem KLin.of {vals : List Int} {i : Nat} {k : Kn} (h : KLin vals i k) (p : Int) : k.of p = p := by
  unfold Kn.of
  rw [h.same]
  rfl
theorem KLin.reads {vals : List Int} {i : Nat} {k : Kn} (h : KLin vals i k) (s : Stp) : k.reads s = s := by
  have : k.of = id := by funext p; exact h.of p
  unfold Kn.reads
  rw [this]
  simp
theorem turn_const {s : Stp} {A B : Option Int} (h : s.code = 1 ∨ s.code = 8) : turnP s A B = s := by
  unfold turnP
  rw [if_neg (by omega), if_neg (by omega), if_neg (by omega), if_neg (by omega), if_neg (by omega)]
theorem learn_const {vals : List Int} {i : Nat} {k : Kn} (h : KLin vals i k) {t : Stp} (h1 : t.code = 1) (h2 : t.dst = (i : Int)) (h3 : vals[i]? = some t.n) : KLin vals (i + 1) (k.learn t) := by
  have hw : writesP t = t.dst := writes_dst (by omega)
  unfold Kn.learn
  rw [hw, if_neg (by omega), if_pos h1]
  refine ⟨fun a ha => ?_, fun p => ?_⟩
  · show setO _ _ _ _ = _
    unfold setO
    split
    · rename_i e
      have : a = i := by omega
      rw [this, h3]
    · rename_i e
      have ha2 : a < i := by omega
      show delO k.nums t.dst a = _
      unfold delO
      rw [if_neg e]
      exact h.num a ha2
  · show dropO (delO k.same t.dst) t.dst p = _
    unfold dropO delO
    rw [h.same]
    simp
/-- What is known of such steps: constants. -/
def Consts (vals : List Int) (i : Nat) (l : List Stp) : Prop := ∀ (j : Nat) (t : Stp), l[j]? = some t → t.code = 1 ∧ t.dst = ((i + j : Nat) : Int) ∧ vals[i + j]? = some t.n
theorem known_lin {vals : List Int} {all : List Stp} (hl : Lin all vals) {r : Stp} (hr : r.code = 8) : (m : List Stp) → ∀ i k, m = all.drop i → KLin vals i k → ∃ ts, knownS k (m ++ [r]) = ts ++ [r] ∧ ts.length = m.length ∧ Consts vals i ts
  | [], i, k, hm, hk => by
    refine ⟨[], ?_, rfl, fun j t h => by simp at h⟩
    have hf : freshK k r = k := by unfold freshK; rw [if_neg (by omega)]
    have hs : k.step r = r := by unfold Kn.step; rw [hk.reads, turn_const (Or.inr hr)]
    have hni : ¬ idle k r = true := fun e => by have := (idle_code e).1; omega
    rw [List.nil_append, knownS, hf, hs, if_neg hni, knownS]
  | s :: m, i, k, hm, hk => by
    obtain ⟨hs, hd⟩ := drop_succ hm.symm
    obtain ⟨hdst, hn, hargs, hc⟩ := hl.step i s hs
    have hi : i < vals.length := by
      rw [← hl.len]
      exact (List.getElem?_eq_some_iff.1 hs).1
    have hf : freshK k s = k := by
      unfold freshK
      rw [if_neg (by rcases hc with ⟨h, _⟩ | ⟨_, h, _⟩ | ⟨_, _, _, _, _, h, _⟩ <;> omega)]
    have ht : (k.step s).code = 1 ∧ (k.step s).dst = (i : Int) ∧ vals[i]? = some (k.step s).n := by
      unfold Kn.step
      rw [hk.reads, hk.of, hk.of]
      rcases hc with ⟨h1, h2⟩ | ⟨a, h1, h2, h3, h4⟩ | ⟨a, b, x, y, z, h1, ho, h2, h3, h4, h5, h6, h7, h8, h9⟩
      · rw [turn_const (Or.inl h1)]
        exact ⟨h1, hdst, h2⟩
      · have hA : k.nums s.a = some (vals[i]'hi) := by rw [h2, hk.num a h3, ← h4, List.getElem?_eq_getElem hi]
        unfold turnP
        rw [if_pos ⟨h1, by rw [hA]; rfl⟩, hA]
        exact ⟨rfl, hdst, by rw [List.getElem?_eq_getElem hi]; rfl⟩
      · have hA : k.nums s.a = some x := by rw [h2, hk.num a h4, h6]
        have hB : k.nums s.b = some y := by rw [h3, hk.num b h5, h7]
        unfold turnP
        rw [if_neg (by omega), if_neg (by omega), if_pos ⟨h1, by rw [hA]; rfl, by rw [hB]; rfl⟩, hA, hB]
        simp only [Option.getD_some]
        rw [h9, if_pos rfl]
        exact ⟨rfl, hdst, h8⟩
    have hni : ¬ idle k (k.step s) = true := fun e => by have := (idle_code e).1; omega
    obtain ⟨ts, h1, h2, h3⟩ := known_lin hl hr m (i + 1) (k.learn (k.step s)) hd.symm (learn_const hk ht.1 ht.2.1 ht.2.2)
    refine ⟨k.step s :: ts, ?_, by rw [List.length_cons, List.length_cons, h2], fun j t hj => ?_⟩
    · rw [List.cons_append, knownS, hf, if_neg hni, h1]
      rfl
    · cases j with
      | zero =>
        obtain rfl := Option.some.inj hj
        exact ht
      | succ j =>
        have := h3 j t hj
        rw [show i + (j + 1) = i + 1 + j by omega]
        exact this
/-- All that is needed is the last place. -/
theorem need_last {F : Fm} {ts : List Stp} {r : Stp} {p : Int} (hF : F.steps = ts ++ [r]) (ht : ∀ t ∈ ts, t.code = 1) (hr : r.code = 8) (ha : r.a = p) : (∀ i q, Needed F i q → q = p) ∧ (1 ≤ ts.length → Needed F (ts.length - 1) p) := by
  have hmem : ∀ i s, F.steps[i]? = some s → s ∈ ts ∨ s = r := fun i s h => by
    have := List.mem_of_getElem? h
    rw [hF] at this
    simpa using this
  refine ⟨fun i q h => h (fun _ q => q = p) (fun _ q => q = p) ⟨fun _ _ _ _ h => h, fun _ _ _ _ h _ => h, fun i s q hs hq => ?_⟩, fun h1 => ?_⟩
  · rcases hmem i s hs with h | rfl
    · have := ht s h
      unfold usesP at hq
      rw [if_neg (by omega), if_neg (by omega), if_neg (by omega), if_neg (by omega)] at hq
      cases hq
    · unfold usesP at hq
      rw [if_pos (by omega)] at hq
      rw [List.mem_singleton] at hq
      rw [hq, ha]
  · have hri : F.steps[ts.length]? = some r := by rw [hF]; simp
    have hu : NeededA F ts.length p := (needed_closed F).use ts.length r p hri (by unfold usesP; rw [if_pos (by omega), ha]; simp)
    refine (needed_closed F).next _ ts.length p ?_ hu
    obtain ⟨t, hti⟩ : ∃ t, F.steps[ts.length - 1]? = some t := ⟨_, List.getElem?_eq_getElem (by rw [hF]; simp; omega)⟩
    have htm : t.code = 1 := by
      rw [hF, List.getElem?_append_left (by omega)] at hti
      exact ht t (List.mem_of_getElem? hti)
    unfold followsP
    rw [hti]
    simp only
    rw [if_neg (by omega), if_pos ⟨by omega, by omega, by rw [hF]; simp; omega⟩]
    simp
    omega
/-- A number that is told. -/
def Told (F : Fm) (p v : Int) : Prop := ∃ c r, F.steps = [c, r] ∧ c.code = 1 ∧ c.dst = p ∧ c.n = v ∧ r.code = 8 ∧ r.a = p
theorem reached_told {l : List Stp} {c r : Stp} (h : l = [c, r]) (hc : c.code = 1) (hr : r.code = 8) : reachedS l = [c, r] := by
  have h1 : onS true l = [c, r] := by
    rw [h, onS, onS, onS]
    simp [hc, hr]
  have h2 : jumpS [c, r] = [c, r] := by
    rw [jumpS_cons, jumpS_cons]
    unfold skipB
    simp [hc, hr, jumpS]
  unfold reachedS
  rw [h1, h2, List.filter_cons_of_pos (by rw [spare_not (Or.inl (by omega))]; rfl), List.filter_cons_of_pos (by rw [spare_not (Or.inl (by omega))]; rfl)]
  rfl
theorem pure_const {t : Stp} (h : t.code = 1) : pureP t = true := by
  unfold pureP
  simp [h]
theorem dead_one {F : Fm} {i : Nat} {c r : Stp} (hc : c.code = 1) (hn : Needed F i c.dst) (hr : r.code = 8) : deadS F i [c, r] = [c, r] := by
  rw [deadS, if_pos, dead_keep _ _ _ _ (pure_not (by omega))]
  · rfl
  · rw [writes_dst (by omega)]
    unfold neededB
    simp [hn]
theorem dead_skip {F : Fm} {vals : List Int} {p : Int} (hn : ∀ i q, Needed F i q → q = p) {c r : Stp} (hc : c.code = 1) (hcd : c.dst = p) (hr : r.code = 8) : (m : List Stp) → ∀ i, Consts vals i m → ((i + m.length : Nat) : Int) = p → Needed F (i + m.length) p → deadS F i (m ++ [c, r]) = [c, r]
  | [], i, _, _, hne => dead_one hc (by rw [hcd]; exact hne) hr
  | t :: m, i, h, hp, hne => by
    obtain ⟨h1, h2, -⟩ := h 0 t rfl
    rw [List.cons_append, deadS, if_neg]
    · refine dead_skip (vals := vals) hn hc hcd hr m (i + 1) (fun j t hj => ?_) (by rw [← hp, List.length_cons]; congr 1; omega) (by rw [List.length_cons] at hne; rw [show i + 1 + m.length = i + (m.length + 1) by omega]; exact hne)
      have := h (j + 1) t hj
      rw [show i + 1 + j = i + (j + 1) by omega]
      exact this
    · rw [writes_dst (by omega), pure_const h1]
      unfold neededB
      have : ¬ Needed F i t.dst := fun e => by
        have := hn i _ e
        rw [h2, ← hp, List.length_cons] at this
        omega
      simp [this]
theorem lin_one {F : Fm} {l : List Stp} {vals : List Int} {r : Stp} {n : Nat} {v : Int} (hl : Lin l vals) (hF : F.steps = l ++ [r]) (hr : r.code = 8) (hlen : vals.length = n + 1) (ha : r.a = (n : Int)) (hv : vals[n]? = some v) : Told (foldOne F) n v := by
  obtain ⟨ts, h1, h2, h3⟩ := known_lin hl hr l 0 Kn.none rfl ⟨fun a h => absurd h (by omega), fun p => rfl⟩
  have hk : (knownF F).steps = ts ++ [r] := by
    show knownS Kn.none F.steps = _
    rw [hF, h1]
  have htl : ts.length = n + 1 := by rw [h2, hl.len, hlen]
  obtain ⟨c, hc⟩ : ∃ c, ts[n]? = some c := ⟨_, List.getElem?_eq_getElem (by omega)⟩
  obtain ⟨c1, c2, c3⟩ := h3 n c hc
  rw [Nat.zero_add] at c2 c3
  have hcn : c.n = v := by rw [hv] at c3; exact (Option.some.inj c3).symm
  have hts : ts = ts.take n ++ [c] := by
    have := List.take_append_getElem (l := ts) (i := n) (by omega)
    rw [(List.getElem?_eq_some_iff.1 hc).2] at this
    rw [this, List.take_of_length_le (by omega)]
  obtain ⟨n1, n2⟩ := need_last hk (fun t ht => by obtain ⟨j, hj⟩ := List.getElem?_of_mem ht; exact (h3 j t hj).1) hr ha
  have hd : deadS (knownF F) 0 (ts.take n ++ [c, r]) = [c, r] := by
    refine dead_skip (vals := vals) n1 c1 c2 hr (ts.take n) 0 (fun j t hj => ?_) ?_ ?_
    · rw [List.getElem?_take] at hj
      split at hj
      · exact h3 j t hj
      · cases hj
    · rw [List.length_take]; congr 1; omega
    · rw [List.length_take, show 0 + min n ts.length = ts.length - 1 by omega]
      exact n2 (by omega)
  have hdd : (deadF (knownF F)).steps = [c, r] := by
    show deadS (knownF F) 0 (knownF F).steps = _
    have e : (knownF F).steps = ts.take n ++ [c, r] := by
      rw [hk]
      have : ts ++ [r] = (ts.take n ++ [c]) ++ [r] := by rw [← hts]
      rw [this, List.append_assoc]
      rfl
    rw [e]
    exact hd
  exact ⟨c, r, reached_told hdd c1 hr, c1, c2, hcn, hr, ha⟩
theorem told_one {F : Fm} {p v : Int} (hp : 0 ≤ p) (h : Told F p v) : Told (foldOne F) p v := by
  obtain ⟨c, r, hF, h1, h2, h3, h4, h5⟩ := h
  have hk : (knownF F).steps = [c, r] := by
    show knownS Kn.none F.steps = _
    have hn : KLin [] 0 Kn.none := ⟨fun a h => absurd h (by omega), fun p => rfl⟩
    have hs : Kn.none.step c = c := by unfold Kn.step; rw [hn.reads, turn_const (Or.inl h1)]
    have hf : ∀ k, freshK k c = k := fun k => by unfold freshK; rw [if_neg (by omega)]
    have hf2 : ∀ k, freshK k r = k := fun k => by unfold freshK; rw [if_neg (by omega)]
    have hl : KLin [] 0 (Kn.none.learn c) := by
      refine ⟨fun a h => absurd h (by omega), fun q => ?_⟩
      unfold Kn.learn
      rw [writes_dst (by omega), if_neg (by omega), if_pos h1]
      show dropO (delO Kn.none.same _) _ q = none
      unfold dropO delO Kn.none
      simp
    have hs2 : (Kn.none.learn c).step r = r := by unfold Kn.step; rw [hl.reads, turn_const (Or.inr h4)]
    rw [hF, knownS, hf, hs, if_neg, knownS, hf2, hs2, if_neg, knownS]
    · intro e; have := (idle_code e).1; omega
    · intro e; have := (idle_code e).1; omega
  obtain ⟨n1, n2⟩ := need_last (F := knownF F) (ts := [c]) (r := r) (p := p) hk (fun t ht => by rw [List.mem_singleton] at ht; rw [ht]; exact h1) h4 h5
  have hdd : (deadF (knownF F)).steps = [c, r] := by
    show deadS (knownF F) 0 (knownF F).steps = _
    rw [hk]
    exact dead_one h1 (by rw [h2]; exact n2 (Nat.le_refl _)) h4
  exact ⟨c, r, reached_told hdd h1 h4, h1, h2, h3, h4, h5⟩
theorem lin_fold {F : Fm} {l : List Stp} {vals : List Int} {r : Stp} {n : Nat} {v : Int} (hl : Lin l vals) (hF : F.steps = l ++ [r]) (hr : r.code = 8) (hlen : vals.length = n + 1) (ha : r.a = (n : Int)) (hv : vals[n]? = some v) : Told (foldF F) n v :=
  told_one (by omega) (told_one (by omega) (told_one (by omega) (lin_one hl hF hr hlen ha hv)))
theorem lin_good {l : List Stp} {vals : List Int} {r : Stp} {n : Nat} (hl : Lin l vals) (hr : r.code = 8) (hrn : N64 r.n) (hlen : vals.length = n + 1) (ha : r.a = (n : Int)) (h30 : n < 3000) : Good [⟨[109, 97, 105, 110], 0, List.replicate (n + 1) 1, l ++ [r]⟩] := by
  obtain ⟨F, hF⟩ : ∃ F : Fm, F = ⟨[109, 97, 105, 110], 0, List.replicate (n + 1) 1, l ++ [r]⟩ := ⟨_, rfl⟩
  rw [← hF]
  have hk : ∀ a : Nat, a < n + 1 → kindP F (a : Int) = 1 := fun a h => by
    unfold kindP
    rw [hF]
    simp only [List.length_replicate]
    rw [if_neg (by omega), List.getD_eq_getElem?_getD, List.getElem?_replicate, if_pos (by omega)]
    rfl
  have hfit0 : ∀ p, fitB F 0 p = true := fun p => rfl
  have hfit : ∀ a : Nat, a < n + 1 → fitB F 1 (a : Int) = true := fun a h => by unfold fitB; rw [hk a h]; rfl
  have hst : ∀ x ∈ F.steps, rightB [F] F x = true ∧ N64 x.n ∧ x.code ≠ 6 := fun x hx => by
    have hx2 : x ∈ l ++ [r] := by rw [hF] at hx; exact hx
    rcases List.mem_append.1 hx2 with hx2 | hx2
    · obtain ⟨i, hi⟩ := List.getElem?_of_mem hx2
      have hil : i < n + 1 := by
        have := (List.getElem?_eq_some_iff.1 hi).1
        have := hl.len
        omega
      obtain ⟨hd, hn, -, hc⟩ := hl.step i x hi
      refine ⟨?_, hn, by rcases hc with ⟨h, _⟩ | ⟨_, h, _⟩ | ⟨_, _, _, _, _, h, _⟩ <;> omega⟩
      unfold rightB
      rcases hc with ⟨h1, -⟩ | ⟨a, h1, h2, h3, -⟩ | ⟨a, b, _, _, _, h1, ho, h2, h3, h4, h5, -⟩
      · rw [if_neg (by omega), if_neg (by omega), if_neg (by omega), h1, hd]
        show (fitB F 1 (i : Int) && fitB F 0 _ && fitB F 0 _ && fitB F 0 _ && true && true) = true
        rw [hfit i hil, hfit0, hfit0, hfit0]
        rfl
      · rw [if_pos h1, hd, h2, hk i hil, hk a (by omega)]
        rfl
      · rw [if_neg (by omega), if_neg (by omega), if_neg (by omega), h1, hd, h2, h3]
        show (fitB F 1 (i : Int) && fitB F 1 (a : Int) && fitB F 1 (b : Int) && fitB F 0 _ && true && (false || opList.contains x.op)) = true
        rw [hfit i hil, hfit a (by omega), hfit b (by omega), hfit0]
        simpa using ho
    · rw [List.mem_singleton] at hx2
      subst hx2
      refine ⟨?_, hrn, by omega⟩
      unfold rightB
      rw [if_neg (by omega), if_neg (by omega), if_neg (by omega), hr, ha]
      show (fitB F 0 _ && fitB F 1 (n : Int) && fitB F 0 _ && fitB F 0 _ && true && true) = true
      rw [hfit n (by omega), hfit0, hfit0, hfit0]
      rfl
  refine ⟨?_, fun G hG x hx => ?_⟩
  · unfold codeB
    have h1 : fnB [F] F = true := by
      rw [fnB_iff]
      refine ⟨by rw [hF]; simp; omega, by rw [hF]; simp, by rw [hF]; simp; have := hl.len; omega, ⟨r, by rw [hF]; simp, Or.inl hr⟩, fun t ht => ?_, ?_, fun x hx => (hst x hx).1⟩
      · rw [hF] at ht
        exact Or.inl (List.eq_of_mem_replicate ht)
      · have : labs F.steps = [] := by
          unfold labs
          rw [List.filter_eq_nil_iff.2 fun x hx => by simpa using (hst x hx).2.2]
          rfl
        rw [this]
        exact List.nodup_nil
    have h2 : headsB [] [F] = true := by
      rw [headsB, if_neg, headsB]
      rw [hF]
      simp
      omega
    rw [h2]
    simp only [List.all_cons, h1, List.all_nil, List.any_cons, List.any_nil]
    rw [hF]
    rfl
  · rw [List.mem_singleton] at hG
    subst hG
    exact (hst x hx).2.1
theorem told_run {F : Fm} {p v : Int} (hn : F.name = [109, 97, 105, 110]) (hp : 0 ≤ p ∧ p.toNat < F.types.length) (h : Told F p v) (fuel : Nat) : runM [F] 4 [] (fuel + 2) = some (1, v, []) := by
  obtain ⟨c, r, hF, h1, h2, h3, h4, h5⟩ := h
  have hg : fmGet [F] [109, 97, 105, 110] = F := by
    unfold fmGet fmOf
    rw [List.find?_cons_of_pos (by simp [hn])]
    rfl
  have e0 : F.steps[0]? = some c := by rw [hF]; rfl
  have e1 : F.steps[1]? = some r := by rw [hF]; rfl
  have hgo : ∀ w : Pl, w.length = F.types.length → goM [F] 3 ⟨[], fuel + 2, 1, [], []⟩ F w 0 = some (.ok v, ⟨[], fuel, 1, [], []⟩) := fun w hw => by
    rw [goM, e0]
    simp only [stepR, bindR, okR]
    rw [if_neg (by omega)]
    simp only
    rw [if_neg (by omega), if_neg (by omega), if_neg (by omega), if_neg (by omega)]
    unfold stepM
    rw [if_pos h1]
    simp only [okR]
    rw [goM, e1]
    simp only [stepR, bindR, okR]
    rw [if_neg (by omega)]
    simp only
    rw [if_neg (by omega), if_neg (by omega), if_neg (by omega), if_pos h4, h5, h2, h3, get_put (by rw [hw]; exact hp) hp.1, if_pos rfl]
    rfl
  unfold runM
  rw [callM, if_neg (show ¬ (0 : Nat) = 40 by decide), hg]
  simp only [Nat.zero_add]
  rw [hgo _ (by unfold fillP; simp)]
  rfl
end Go.Proofs.YtoajcbfejplfbaaDoor.MidP

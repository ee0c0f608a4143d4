/- Plainly: the places of a right function hold what their types say, all numbers have 64 bits, and no step goes past the last one. No program in sight. Conditions: the functions are right, their numbers, and what is given, have 64 bits. -/
import Derived.Test.YtoajcbfejplfbaaDoorFoldAll
import Derived.Test.YtoajcbfejplfbaaDoorRunRg
namespace Go.Proofs.YtoajcbfejplfbaaDoor.MidP
open Go.RowKit Go.Proofs.YtoajcbfejplfbaaDoor.TreeP
set_option linter.unusedVariables false
set_option linter.unusedSimpArgs false
/-- A value of a type: a number, or an array (the empty one: none). -/
def VTy2 (s : RS) (t : Int) (x : V) : Prop := AluP.I64 x.n ∧ (t = 1 → x.arr = none) ∧ (t = 2 → x.n = 0) ∧ ∀ i, x.arr = some i → i < s.arrs.length
theorem VTy2.on {s u : RS} {t : Int} {x : V} (h : VTy2 s t x) (hu : s.arrs.length ≤ u.arrs.length) : VTy2 u t x := ⟨h.1, h.2.1, h.2.2.1, fun i hi => Nat.lt_of_lt_of_le (h.2.2.2 i hi) hu⟩
theorem VTy2.zero (s : RS) (t : Int) : VTy2 s t ⟨0, none⟩ := ⟨i64_zero, fun _ => rfl, fun _ => rfl, fun i h => (by cases h)⟩
theorem VTy2.num (s : RS) {n : Int} (h : AluP.I64 n) : VTy2 s 1 (numV n) := ⟨h, fun _ => rfl, fun h => (by cases h), fun i h => (by cases h)⟩
/-- Places hold what their types say. -/
def PlTy (s : RS) (ts : List Int) (v : Pl) : Prop := v.length = ts.length ∧ ∀ (j : Nat) t x, ts[j]? = some t → v[j]? = some x → VTy2 s t x
theorem PlTy.on {s u : RS} {ts : List Int} {v : Pl} (h : PlTy s ts v) (hu : s.arrs.length ≤ u.arrs.length) : PlTy u ts v := ⟨h.1, fun j t x h1 h2 => (h.2 j t x h1 h2).on hu⟩
theorem kind_at {F : Fm} {p t : Int} (h : kindP F p = t) (ht : 0 < t) : ∃ n : Nat, p = n ∧ F.types[n]? = some t := by
  unfold kindP at h
  split at h
  · omega
  · rename_i hp
    refine ⟨p.toNat, by omega, ?_⟩
    rw [List.getD_eq_getElem?_getD, List.getElem?_eq_getElem (by omega)] at h
    rw [List.getElem?_eq_getElem (by omega)]
    simpa using h
theorem PlTy.get {s : RS} {F : Fm} {v : Pl} (h : PlTy s F.types v) {p t : Int} (hk : kindP F p = t) (ht : 0 < t) : VTy2 s t (v.get p) := by
  obtain ⟨n, rfl, hn⟩ := kind_at hk ht
  have hl : n < v.length := by rw [h.1]; exact (List.getElem?_eq_some_iff.1 hn).1
  unfold Pl.get
  rw [Int.toNat_natCast, List.getD_eq_getElem?_getD, List.getElem?_eq_getElem hl]
  exact h.2 n t _ hn (List.getElem?_eq_getElem hl)
theorem PlTy.put {s : RS} {F : Fm} {v : Pl} (h : PlTy s F.types v) {p t : Int} {y : V} (hk : kindP F p = t) (ht : 0 < t) (hy : VTy2 s t y) : PlTy s F.types (v.put p y) := by
  obtain ⟨n, rfl, hn⟩ := kind_at hk ht
  unfold Pl.put
  rw [Int.toNat_natCast]
  refine ⟨by rw [List.length_set]; exact h.1, fun j u x h1 h2 => ?_⟩
  rw [List.getElem?_set] at h2
  split at h2
  · rename_i hj
    subst hj
    split at h2
    · obtain rfl := Option.some.inj h2
      rw [hn] at h1
      obtain rfl := Option.some.inj h1
      exact hy
    · cases h2
  · exact h.2 j u x h1 h2
theorem fit_kind {F : Fm} {t p : Int} (ht : 0 < t) (h : fitB F t p = true) : kindP F p = t := by
  unfold fitB at h
  simp only [show decide (t > 0) = true from decide_eq_true ht, Bool.true_and, Bool.not_eq_true', bne_eq_false_iff_eq] at h
  exact h
theorem right_forms {L : List Fm} {F : Fm} {x : Stp} (hok : rightB L F x = true) (h2 : x.code ≠ 2) (h7 : x.code ≠ 7) : (1 ≤ x.code ∧ x.code ≤ 14) ∧ fitB F ((formsP x.code).getD 0 0) x.dst = true ∧ fitB F ((formsP x.code).getD 1 0) x.a = true ∧ fitB F ((formsP x.code).getD 2 0) x.b = true ∧ fitB F ((formsP x.code).getD 3 0) x.c = true := by
  unfold rightB at hok
  rw [if_neg h2, if_neg h7] at hok
  split at hok
  · cases hok
  · simp only [Bool.and_eq_true] at hok
    exact ⟨by omega, hok.1.1.1.1.1, hok.1.1.1.1.2, hok.1.1.1.2, hok.1.1.2⟩
theorem i64_both {op : List UInt8} {a b : Int} (ha : AluP.I64 a) : AluP.I64 (bothP op a b).1 := by
  unfold bothP
  repeat' split
  all_goals
    first
      | exact i64_wrap64 _
      | exact i64_oneB _
      | exact i64_zero
      | exact AluP.tmod_in _ _ ha
theorem right_copy_kind {L : List Fm} {F : Fm} {x : Stp} (hok : rightB L F x = true) (h2 : x.code = 2) : 0 < kindP F x.dst ∧ kindP F x.a = kindP F x.dst := by
  unfold rightB at hok
  rw [if_pos h2] at hok
  simp only [Bool.and_eq_true, decide_eq_true_eq, beq_iff_eq] at hok
  exact ⟨hok.1, hok.2.symm⟩
theorem okR_inj {α : Type} {a b : α} {s t : RS} (h : okR a s = some (.ok b, t)) : a = b ∧ s = t := by
  unfold okR at h
  simp only [Option.some.injEq, Prod.mk.injEq, Except.ok.injEq] at h
  exact h
theorem stopR_no {α : Type} {w : Int} {b : α} {s t : RS} (h : (stopR w s : RM α) = some (.ok b, t)) : False := by
  unfold stopR at h
  cases h
/-- What a step leaves. -/
def KeepT (s t : RS) (k : Nat) : Prop := RsOk t ∧ s.arrs.length ≤ t.arrs.length ∧ t.arrs.length + t.fuel ≤ s.arrs.length + s.fuel + k
theorem KeepT.refl {s : RS} (h : RsOk s) (k : Nat) : KeepT s s k := ⟨h, Nat.le_refl _, Nat.le_add_right _ _⟩
theorem put_arrs (s : RS) (v : V) (i x : Int) : (putArr s v i x).arrs.length = s.arrs.length ∧ (putArr s v i x).fuel = s.fuel := by
  unfold putArr
  split
  · exact ⟨by simp, rfl⟩
  · exact ⟨rfl, rfl⟩
theorem stepM_ty {L : List Fm} {F : Fm} {x : Stp} {v v2 : Pl} {s t : RS} (hr : rightB L F x = true) (hv : PlTy s F.types v) (hs : RsOk s) (hn : AluP.I64 x.n) (h : stepM v x s = some (.ok v2, t)) : PlTy t F.types v2 ∧ KeepT s t 1 := by
  unfold stepM at h
  by_cases h7 : x.code = 7
  · simp only [h7] at h
    obtain ⟨rfl, rfl⟩ := okR_inj h
    exact ⟨hv, KeepT.refl hs 1⟩
  by_cases h2 : x.code = 2
  · obtain ⟨k1, k2⟩ := right_copy_kind hr h2
    rw [if_neg (by omega), if_pos h2] at h
    obtain ⟨rfl, rfl⟩ := okR_inj h
    exact ⟨hv.put rfl k1 (hv.get k2 k1), KeepT.refl hs 1⟩
  obtain ⟨hc, f1, f2, f3, f4⟩ := right_forms hr h2 h7
  by_cases e : x.code = 1
  · rw [if_pos e] at h
    rw [e] at f1
    obtain ⟨rfl, rfl⟩ := okR_inj h
    exact ⟨hv.put (fit_kind (t := 1) (by decide) f1) (by decide) (VTy2.num s hn), KeepT.refl hs 1⟩
  rw [if_neg e, if_neg h2] at h
  clear e
  by_cases e : x.code = 3
  · rw [if_pos e] at h
    rw [e] at f1 f2 f3
    split at h
    · exact (stopR_no h).elim
    · obtain ⟨rfl, rfl⟩ := okR_inj h
      exact ⟨hv.put (fit_kind (t := 1) (by decide) f1) (by decide) (VTy2.num s (i64_both (hv.get (fit_kind (t := 1) (by decide) f2) (by decide)).1)), KeepT.refl hs 1⟩
  rw [if_neg e] at h
  clear e
  by_cases e : x.code = 9
  · rw [if_pos e] at h
    rw [e] at f1 f2
    split at h
    · exact (stopR_no h).elim
    · rename_i hna
      obtain ⟨rfl, rfl⟩ := okR_inj h
      refine ⟨(hv.on (by simp)).put (fit_kind (t := 2) (by decide) f1) (by decide) ⟨i64_zero, fun h => (by cases h), fun _ => rfl, fun i hi => ?_⟩, ⟨hs.1, fun l hl => ?_⟩, by simp, by simp; omega⟩
      · simp only [Option.some.injEq] at hi
        subst hi
        simp
      · rcases List.mem_append.1 hl with hl | hl
        · exact hs.2 l hl
        · simp only [List.mem_singleton] at hl
          subst hl
          refine ⟨by simp; omega, fun y hy => ?_⟩
          rw [(List.mem_replicate.1 hy).2]
          exact i64_zero
  rw [if_neg e] at h
  clear e
  by_cases e : x.code = 10
  · rw [if_pos e] at h
    rw [e] at f1
    obtain ⟨rfl, rfl⟩ := okR_inj h
    exact ⟨hv.put (fit_kind (t := 1) (by decide) f1) (by decide) (VTy2.num s (by have := (hs.arr (v.get x.a)).1; unfold AluP.I64; omega)), KeepT.refl hs 1⟩
  rw [if_neg e] at h
  clear e
  by_cases e : x.code = 11
  · rw [if_pos e] at h
    rw [e] at f1
    unfold placeR at h
    split at h
    · exact (stopR_no h).elim
    · obtain ⟨rfl, rfl⟩ := okR_inj h
      exact ⟨hv.put (fit_kind (t := 1) (by decide) f1) (by decide) (VTy2.num s (getD_ok (hs.arr _).2 _)), KeepT.refl hs 1⟩
  rw [if_neg e] at h
  clear e
  by_cases e : x.code = 12
  · rw [if_pos e] at h
    rw [e] at f4
    unfold placeR at h
    split at h
    · exact (stopR_no h).elim
    · obtain ⟨rfl, rfl⟩ := okR_inj h
      obtain ⟨p1, p2⟩ := put_arrs s (v.get x.a) (v.get x.b).n (v.get x.c).n
      exact ⟨hv.on (Nat.le_of_eq p1.symm), hs.putArr _ _ _ (hv.get (fit_kind (t := 1) (by decide) f4) (by decide)).1, Nat.le_of_eq p1.symm, by rw [p1, p2]; omega⟩
  rw [if_neg e] at h
  clear e
  by_cases e : x.code = 13
  · rw [if_pos e] at h
    split at h
    · exact (stopR_no h).elim
    · obtain ⟨rfl, rfl⟩ := okR_inj h
      exact ⟨hv, hs, Nat.le_refl _, Nat.le_succ _⟩
  rw [if_neg e] at h
  clear e
  by_cases e : x.code = 14
  · rw [if_pos e] at h
    rw [e] at f1
    split at h
    · obtain ⟨rfl, rfl⟩ := okR_inj h
      exact ⟨hv.put (fit_kind (t := 1) (by decide) f1) (by decide) (VTy2.num s i64_zero), KeepT.refl hs 1⟩
    · rename_i n r hin
      obtain ⟨rfl, rfl⟩ := okR_inj h
      have hi := hs.1
      rw [hin] at hi
      exact ⟨hv.put (fit_kind (t := 1) (by decide) f1) (by decide) ⟨hi n List.mem_cons_self, fun _ => rfl, fun h => (by cases h), fun i h => (by cases h)⟩, ⟨fun y hy => hi y (List.mem_cons_of_mem _ hy), hs.2⟩, Nat.le_refl _, Nat.le_succ _⟩
  rw [if_neg e] at h
  obtain ⟨rfl, rfl⟩ := okR_inj h
  exact ⟨hv, KeepT.refl hs 1⟩
/-- All functions are right, and their numbers have 64 bits. -/
structure OkM (L : List Fm) : Prop where
  code : codeB L = true
  num : ∀ f ∈ L, ∀ s ∈ f.steps, AluP.I64 s.n
theorem OkM.fn {L : List Fm} (h : OkM L) {f : Fm} (hf : f ∈ L) : fnB L f = true := by
  have := h.code
  unfold codeB at this
  simp only [Bool.and_eq_true, List.all_eq_true] at this
  exact this.1.2 f hf
theorem OkM.right {L : List Fm} (h : OkM L) {f : Fm} (hf : f ∈ L) {x : Stp} (hx : x ∈ f.steps) : rightB L f x = true := by
  have := h.fn hf
  unfold fnB at this
  simp only [Bool.and_eq_true, List.all_eq_true] at this
  exact this.2 x hx
theorem OkM.types {L : List Fm} (h : OkM L) {f : Fm} (hf : f ∈ L) : ∀ t ∈ f.types, 0 < t := by
  have := h.fn hf
  unfold fnB at this
  simp only [Bool.and_eq_true, List.all_eq_true, Bool.or_eq_true, beq_iff_eq] at this
  intro t ht
  have := this.1.1.2 t ht
  omega
theorem OkM.last {L : List Fm} (h : OkM L) {f : Fm} (hf : f ∈ L) {i : Nat} {x : Stp} (hx : f.steps[i]? = some x) (h4 : x.code ≠ 4) (h8 : x.code ≠ 8) : i + 1 < f.steps.length := by
  have hl := (List.getElem?_eq_some_iff.1 hx).1
  rcases Nat.lt_or_ge (i + 1) f.steps.length with k | k
  · exact k
  · have := h.fn hf
    unfold fnB at this
    simp only [Bool.and_eq_true] at this
    have h1 := this.1.1.1.2
    rw [List.getLast?_eq_getElem?, show f.steps.length - 1 = i by omega, hx] at h1
    simp only [Bool.or_eq_true, beq_iff_eq] at h1
    omega
/-- A jump leads to a label that is there. -/
theorem OkM.jump {L : List Fm} (h : OkM L) {f : Fm} (hf : f ∈ L) {x : Stp} (hx : x ∈ f.steps) (hj : x.code = 4 ∨ x.code = 5) : atP f x.label + 1 < f.steps.length := by
  have hr := h.right hf hx
  have hh : hasLabel f x.label = true := by
    unfold rightB at hr
    rw [if_neg (by omega), if_neg (by omega)] at hr
    split at hr
    · cases hr
    · simp only [Bool.and_eq_true, Bool.or_eq_true, Bool.not_eq_true', Bool.or_eq_false_iff, beq_eq_false_iff_ne] at hr
      rcases hr.1.2 with k | k
      · omega
      · exact k
  rw [has_iff] at hh
  obtain ⟨pre, y, post, e1, e2, e3, e4⟩ := lab_split f.steps hh
  have e5 : atP f x.label = pre.length := by
    unfold atP
    rw [e1, labelAt_split ⟨e2, e3⟩ e4 pre 0 0, Nat.zero_add]
  rw [e5]
  refine h.last hf (x := y) ?_ (by omega) (by omega)
  rw [e1]
  simp
theorem fill_vty {s : RS} {ts : List Int} {vs : List V} (hl : vs.length ≤ ts.length) (hv : ∀ (j : Nat) t x, ts[j]? = some t → vs[j]? = some x → VTy2 s t x) : PlTy s ts (fillP vs ts.length) := by
  unfold fillP
  rw [List.take_of_length_le hl]
  refine ⟨by simp; omega, fun j t x h1 h2 => ?_⟩
  rcases Nat.lt_or_ge j vs.length with hj | hj
  · rw [List.getElem?_append_left hj] at h2
    exact hv j t x h1 h2
  · rw [List.getElem?_append_right hj] at h2
    have := (List.mem_replicate.1 (List.mem_of_getElem? h2)).2
    subst this
    exact VTy2.zero s t
/-- What is handed over by a call. -/
theorem args_vty {L : List Fm} (hL : OkM L) {F : Fm} (hF : F ∈ L) {x : Stp} (hx : x ∈ F.steps) (h7 : x.code = 7) {s : RS} {v : Pl} (hv : PlTy s F.types v) : kindP F x.dst = 1 ∧ ∃ G, fmOf L x.name = some G ∧ (x.args.map v.get).length ≤ G.types.length ∧ (∀ p ∈ x.args, 0 < kindP F p) ∧ ∀ (j : Nat) t y, G.types[j]? = some t → (x.args.map v.get)[j]? = some y → VTy2 s t y := by
  have hok := hL.right hF hx
  unfold rightB at hok
  rw [if_neg (by omega), if_pos h7] at hok
  split at hok
  · cases hok
  · rename_i G hG
    simp only [Bool.and_eq_true, decide_eq_true_eq, beq_iff_eq] at hok
    obtain ⟨⟨h1, h2⟩, h3⟩ := hok
    have hGm : G ∈ L := List.mem_of_find?_eq_some hG
    have hty := hL.types hGm
    have hlen : x.args.length ≤ G.types.length := by
      have := congrArg List.length h3
      simp only [List.length_map, List.length_take] at this
      omega
    have hk : ∀ (j : Nat) (p : Int) t, x.args[j]? = some p → G.types[j]? = some t → kindP F p = t := by
      intro j p t hp ht
      have hj := (List.getElem?_eq_some_iff.1 hp).1
      have := congrArg (fun l => l[j]?) h3
      simp only [List.getElem?_map, hp, Option.map_some, List.getElem?_take, if_pos hj, ht] at this
      exact Option.some.inj this
    refine ⟨h2, G, hG, by simpa using hlen, fun p hp => ?_, fun j t y ht hy => ?_⟩
    · obtain ⟨j, hj⟩ := List.mem_iff_getElem?.1 hp
      have hjl := (List.getElem?_eq_some_iff.1 hj).1
      have hjt : G.types[j]? = some (G.types[j]'(by omega)) := List.getElem?_eq_getElem _
      rw [hk j p _ hj hjt]
      exact hty _ (List.getElem_mem _)
    · rw [List.getElem?_map] at hy
      cases hp : x.args[j]? with
      | none => rw [hp] at hy; cases hy
      | some p =>
        rw [hp] at hy
        obtain rfl := Option.some.inj hy
        exact hv.get (hk j p t hp ht) (hty t (List.mem_of_getElem? ht))
/-- Behind a run: the number has 64 bits. -/
def TyOf (s : RS) (k : Nat) (y : Except Sig Int × RS) : Prop := ∀ n, y.1 = .ok n → AluP.I64 n ∧ KeepT s y.2 k
theorem stepR_ty {s t : RS} {u : Unit} (hs : RsOk s) (h : stepR s = some (.ok u, t)) : 0 < s.fuel ∧ t = { s with fuel := s.fuel - 1 } := by
  unfold stepR at h
  split at h
  · exact (stopR_no h).elim
  · rename_i h0
    obtain ⟨-, rfl⟩ := okR_inj h
    exact ⟨by omega, rfl⟩
theorem bind_some {α β : Type} {x : RM α} {k : α → RS → RM β} {y : Except Sig β × RS} (h : bindR x k = some y) : (∃ a t, x = some (.ok a, t) ∧ k a t = some y) ∨ ∃ e t, x = some (.error e, t) ∧ y = (.error e, t) := by
  rcases x with _ | ⟨_ | a, t⟩
  · cases h
  · exact Or.inr ⟨_, _, rfl, (Option.some.inj h).symm⟩
  · exact Or.inl ⟨a, t, rfl, h⟩
theorem TyOf.back {s t : RS} {k j : Nat} {y : Except Sig Int × RS} (h : TyOf t j y) (hs : s.arrs.length ≤ t.arrs.length) (hf : t.arrs.length + t.fuel + j ≤ s.arrs.length + s.fuel + k) : TyOf s k y := fun n hn => by
  obtain ⟨h1, h2, h3, h4⟩ := h n hn
  exact ⟨h1, h2, by omega, by omega⟩
theorem tyM_all {L : List Fm} (hL : OkM L) : ∀ f, (∀ s F v i y, F ∈ L → PlTy s F.types v → RsOk s → goM L f s F v i = some y → TyOf s 0 y) ∧ (∀ s g vs y, RsOk s → (∃ G, fmOf L g = some G ∧ vs.length ≤ G.types.length ∧ ∀ (j : Nat) t x, G.types[j]? = some t → vs[j]? = some x → VTy2 s t x) → callM L f s g vs = some y → TyOf s 0 y)
  | 0 => ⟨fun s F v i y _ _ _ h => (by simp only [goM] at h; cases h), fun s g vs y _ _ h => (by simp only [callM] at h; cases h)⟩
  | f + 1 => by
    obtain ⟨ihg, ihc⟩ := tyM_all hL f
    constructor
    · intro s F v i y hF hv hs h
      simp only [goM] at h
      split at h
      · obtain rfl := (Option.some.inj h).symm
        intro n hn
        cases hn
        exact ⟨i64_zero, KeepT.refl hs 0⟩
      · rename_i x hx
        have hxm : x ∈ F.steps := List.mem_of_getElem? hx
        have hr := hL.right hF hxm
        rcases bind_some h with ⟨u, t, e1, h⟩ | ⟨e, t, e1, rfl⟩
        rotate_left
        · intro n hn; cases hn
        obtain ⟨hf0, rfl⟩ := stepR_ty hs e1
        have hv' : PlTy { s with fuel := s.fuel - 1 } F.types v := hv.on (Nat.le_refl _)
        have hs' : RsOk { s with fuel := s.fuel - 1 } := hs
        have back : ∀ {y : Except Sig Int × RS}, TyOf { s with fuel := s.fuel - 1 } 0 y → TyOf s 0 y := fun h => h.back (Nat.le_refl _) (by show s.arrs.length + (s.fuel - 1) + 0 ≤ _; omega)
        split at h
        · exact back (ihg _ F v _ y hF hv' hs' h)
        split at h
        · split at h
          · exact back (ihg _ F v _ y hF hv' hs' h)
          · exact back (ihg _ F v _ y hF hv' hs' h)
        split at h
        · rename_i h7
          rcases bind_some h with ⟨n, t, e2, h⟩ | ⟨e, t, e2, rfl⟩
          rotate_left
          · intro n hn; cases hn
          obtain ⟨hd, G, hG, hGl, -, hGt⟩ := args_vty hL hF hxm h7 hv'
          obtain ⟨k1, k2, k3, k4⟩ := ihc _ x.name _ _ hs' ⟨G, hG, hGl, hGt⟩ e2 n rfl
          have h9 := ihg t F _ _ y hF ((hv'.on k3).put hd (by decide) (VTy2.num t k1)) k2 h
          refine h9.back k3 ?_
          have : t.arrs.length + t.fuel ≤ s.arrs.length + (s.fuel - 1) + 0 := k4
          omega
        split at h
        · rename_i h8
          obtain rfl := (Option.some.inj h).symm
          intro n hn
          cases hn
          have f2 := (right_forms hr (by omega) (by omega)).2.2.1
          rw [h8] at f2
          exact ⟨(hv.get (fit_kind (t := 1) (by decide) f2) (by decide)).1, hs', Nat.le_refl _, by show s.arrs.length + (s.fuel - 1) ≤ _; omega⟩
        · rcases bind_some h with ⟨v2, t, e2, h⟩ | ⟨e, t, e2, rfl⟩
          rotate_left
          · intro n hn; cases hn
          obtain ⟨k1, k2, k3, k4⟩ := stepM_ty hr hv' hs' (hL.num F hF x hxm) e2
          refine (ihg t F _ _ y hF k1 k2 h).back k3 ?_
          have : t.arrs.length + t.fuel ≤ s.arrs.length + (s.fuel - 1) + 1 := k4
          omega
    · intro s g vs y hs hg h
      obtain ⟨G, hG, hGl, hGt⟩ := hg
      have hget : fmGet L g = G := by unfold fmGet; rw [hG]; rfl
      simp only [callM, hget] at h
      split at h
      · obtain rfl := (Option.some.inj h).symm
        intro n hn; cases hn
      · rcases bind_some h with ⟨n, t, e1, h⟩ | ⟨e, t, e1, rfl⟩
        rotate_left
        · intro n hn; cases hn
        obtain rfl := (Option.some.inj h).symm
        have hGm : G ∈ L := List.mem_of_find?_eq_some hG
        obtain ⟨k1, k2⟩ := ihg { s with calls := s.calls + 1 } G _ 0 _ hGm ((fill_vty (s := s) hGl hGt).on (Nat.le_refl _)) hs e1 n rfl
        intro m hm
        cases hm
        exact ⟨k1, k2⟩
end Go.Proofs.YtoajcbfejplfbaaDoor.MidP

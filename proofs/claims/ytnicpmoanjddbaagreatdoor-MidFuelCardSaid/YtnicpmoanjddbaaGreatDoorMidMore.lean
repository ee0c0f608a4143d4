/- Steps, plainly: more fuel is no other road; rounds enough. No program in sight. No conditions. -/
import Derived.Test.YtnicpmoanjddbaaGreatDoorMidP
namespace Go.Proofs.YtnicpmoanjddbaaGreatDoor.MidP
open Go.RowKit Go.Proofs.YtnicpmoanjddbaaGreatDoor.TreeP
set_option linter.unusedVariables false
set_option linter.unusedSimpArgs false
section goes
variable {R : RS → RS → Prop}
theorem stepM_goes (hR : OneWay R) (v : Pl) (x : Stp) (s : RS) : Goes R s (stepM v x s) := by
  unfold stepM
  split
  · exact Goes.ok _ (hR.refl s)
  split
  · exact Goes.ok _ (hR.refl s)
  split
  · split
    · exact Goes.err _ (hR.refl s)
    · exact Goes.ok _ (hR.refl s)
  split
  · split
    · exact Goes.err _ (hR.refl s)
    · exact Goes.ok _ (hR.arrs s _ (by simp))
  split
  · exact Goes.ok _ (hR.refl s)
  split
  · exact (placeR_goes hR s _ _).bind hR fun _ t => Goes.ok _ (hR.refl t)
  split
  · exact (placeR_goes hR s _ _).bind hR fun _ t => Goes.ok _ (putArr_goes hR t _ _ _)
  split
  · split
    · exact Goes.err _ (hR.refl s)
    · exact Goes.ok _ (hR.told s _)
  split
  · split
    · exact Goes.ok _ (hR.refl s)
    · exact Goes.ok _ (hR.inp s _)
  · exact Goes.ok _ (hR.refl s)
theorem goesM_all (hR : OneWay R) (L : List Fm) : ∀ f, (∀ s F v i, Goes R s (goM L f s F v i)) ∧ (∀ s g vs, Goes R s (callM L f s g vs)) := by
  intro f
  induction f with
  | zero => exact ⟨fun s F v i => by simp only [goM]; exact Goes.none_ _, fun s g vs => by simp only [callM]; exact Goes.none_ _⟩
  | succ f ih =>
    obtain ⟨i1, i2⟩ := ih
    refine ⟨fun s F v i => ?_, fun s g vs => ?_⟩
    · simp only [goM]
      split
      · exact Goes.ok _ (hR.refl s)
      · refine (stepR_goes hR s).bind hR fun _ t => ?_
        split
        · exact i1 _ _ _ _
        split
        · split
          · exact i1 _ _ _ _
          · exact i1 _ _ _ _
        split
        · exact (i2 t _ _).bind hR fun n t2 => i1 _ _ _ _
        split
        · exact Goes.ok _ (hR.refl t)
        · exact (stepM_goes hR v _ t).bind hR fun v2 t2 => i1 _ _ _ _
    · simp only [callM]
      split
      · exact Goes.err _ (hR.refl s)
      · intro y hy
        have h1 : Goes R { s with calls := s.calls + 1 } (bindR (goM L f { s with calls := s.calls + 1 } (fmGet L g) (fillP vs (fmGet L g).types.length) 0) fun n t => okR n { t with calls := t.calls - 1 }) := (i1 _ _ _ _).bind hR fun n t => Goes.ok _ (hR.calls t _)
        exact hR.trans _ _ _ (hR.calls s _) (h1 y hy)
end goes
/-- It stops, or as many calls wait as before. -/
def KeptM {α : Type} (s : RS) (x : RM α) : Prop := ∀ y, x = some y → (∃ w, y.1 = .error (.stop w)) ∨ ((∃ a, y.1 = .ok a) ∧ y.2.calls = s.calls)
theorem KeptM.ok {α : Type} {s s' : RS} (a : α) (h : s'.calls = s.calls) : KeptM s (okR a s') := by
  intro y hy
  obtain rfl := (Option.some.inj hy).symm
  exact Or.inr ⟨⟨a, rfl⟩, h⟩
theorem KeptM.stop {α : Type} {s s' : RS} (w : Int) : KeptM s (stopR w s' : RM α) := by
  intro y hy
  obtain rfl := (Option.some.inj hy).symm
  exact Or.inl ⟨w, rfl⟩
theorem KeptM.bind {α β : Type} {s : RS} {x : RM α} {f : α → RS → RM β} (h : KeptM s x) (hf : ∀ a t, t.calls = s.calls → KeptM s (f a t)) : KeptM s (bindR x f) := by
  rcases x with _ | ⟨g | a, t⟩
  · intro y hy; cases hy
  · intro y hy
    obtain rfl := (Option.some.inj hy).symm
    rcases h _ rfl with ⟨w, hw⟩ | ⟨⟨a, ha⟩, h⟩
    · simp only [Except.error.injEq] at hw
      exact Or.inl ⟨w, by rw [hw]⟩
    · cases ha
  · rcases h _ rfl with ⟨w, hw⟩ | ⟨_, h⟩
    · cases hw
    · exact hf a t h
theorem KeptM.to {α : Type} {s t : RS} {x : RM α} (h : KeptM t x) (hs : t.calls = s.calls) : KeptM s x := fun y hy => (h y hy).imp id (fun e => ⟨e.1, e.2.trans hs⟩)
theorem KeptM.none_ {α : Type} (s : RS) : KeptM s (none : RM α) := by intro y hy; cases hy
theorem stepR_keptM (s : RS) : KeptM s (stepR s) := by
  unfold stepR
  split
  · exact KeptM.stop _
  · exact KeptM.ok _ rfl
theorem placeR_keptM (s : RS) (v : V) (i : Int) : KeptM s (placeR s v i) := by
  unfold placeR
  split
  · exact KeptM.stop _
  · exact KeptM.ok _ rfl
theorem stepM_kept (v : Pl) (x : Stp) (s : RS) : KeptM s (stepM v x s) := by
  unfold stepM
  split
  · exact KeptM.ok _ rfl
  split
  · exact KeptM.ok _ rfl
  split
  · split
    · exact KeptM.stop _
    · exact KeptM.ok _ rfl
  split
  · split
    · exact KeptM.stop _
    · exact KeptM.ok _ rfl
  split
  · exact KeptM.ok _ rfl
  split
  · exact (placeR_keptM s _ _).bind fun _ t ht => KeptM.ok _ ht
  split
  · exact (placeR_keptM s _ _).bind fun _ t ht => KeptM.ok _ (by rw [putArr_calls]; exact ht)
  split
  · split
    · exact KeptM.stop _
    · exact KeptM.ok _ rfl
  split
  · split
    · exact KeptM.ok _ rfl
    · exact KeptM.ok _ rfl
  · exact KeptM.ok _ rfl
theorem keptM_all (L : List Fm) : ∀ f, (∀ s F v i, KeptM s (goM L f s F v i)) ∧ (∀ s g vs, KeptM s (callM L f s g vs)) := by
  intro f
  induction f with
  | zero => exact ⟨fun s F v i => by simp only [goM]; exact KeptM.none_ _, fun s g vs => by simp only [callM]; exact KeptM.none_ _⟩
  | succ f ih =>
    obtain ⟨i1, i2⟩ := ih
    refine ⟨fun s F v i => ?_, fun s g vs => ?_⟩
    · simp only [goM]
      split
      · exact KeptM.ok _ rfl
      · refine (stepR_keptM s).bind fun _ t ht => ?_
        split
        · exact (i1 _ _ _ _).to ht
        split
        · split
          · exact (i1 _ _ _ _).to ht
          · exact (i1 _ _ _ _).to ht
        split
        · exact ((i2 t _ _).to ht).bind fun n t2 ht2 => (i1 _ _ _ _).to ht2
        split
        · exact KeptM.ok _ ht
        · exact ((stepM_kept v _ t).to ht).bind fun v2 t2 ht2 => (i1 _ _ _ _).to ht2
    · simp only [callM]
      split
      · exact KeptM.stop _
      · intro y hy
        rcases hx : goM L f { s with calls := s.calls + 1 } (fmGet L g) (fillP vs (fmGet L g).types.length) 0 with _ | ⟨e | n, t⟩
        · rw [hx] at hy; cases hy
        · rw [hx] at hy
          obtain rfl := (Option.some.inj hy).symm
          rcases i1 _ _ _ _ _ hx with ⟨w, hw⟩ | ⟨⟨a, ha⟩, _⟩
          · simp only at hw
            exact Or.inl ⟨w, by rw [Except.error.inj hw]⟩
          · cases ha
        · rw [hx] at hy
          obtain rfl := (Option.some.inj hy).symm
          rcases i1 _ _ _ _ _ hx with ⟨w, hw⟩ | ⟨_, h1⟩
          · cases hw
          · exact Or.inr ⟨⟨n, rfl⟩, by simp only at h1 ⊢; omega⟩
/-! More rounds. -/
theorem leM_all (L : List Fm) : ∀ f, (∀ s F v i, Le (goM L f s F v i) (goM L (f + 1) s F v i)) ∧ (∀ s g vs, Le (callM L f s g vs) (callM L (f + 1) s g vs)) := by
  intro f
  induction f with
  | zero =>
    refine ⟨fun s F v i => ?_, fun s g vs => ?_⟩
    · intro y hy; rw [goM] at hy; cases hy
    · intro y hy; rw [callM] at hy; cases hy
  | succ f ih =>
    obtain ⟨i1, i2⟩ := ih
    refine ⟨fun s F v i => ?_, fun s g vs => ?_⟩
    · rw [goM, goM]
      split
      · exact Le.refl _
      · refine (Le.refl (stepR s)).bind fun _ t => ?_
        split
        · exact i1 _ _ _ _
        split
        · split
          · exact i1 _ _ _ _
          · exact i1 _ _ _ _
        split
        · exact (i2 t _ _).bind fun n t2 => i1 _ _ _ _
        split
        · exact Le.refl _
        · exact (Le.refl (stepM v _ t)).bind fun v2 t2 => i1 _ _ _ _
    · rw [callM, callM]
      split
      · exact Le.refl _
      · exact (i1 _ _ _ _).bind fun n t => Le.refl _
/-! More fuel. -/
section more
variable {d : Nat} {p : Prop}
theorem stepM_more {s s' : RS} (hp : p) (h : Like d p s s') (v : Pl) (x : Stp) : More d p (stepM v x s) (stepM v x s') := by
  unfold stepM
  by_cases h1 : x.code = 1
  · rw [if_pos h1, if_pos h1]; exact More.ok _ h
  rw [if_neg h1, if_neg h1]
  by_cases h1 : x.code = 2
  · rw [if_pos h1, if_pos h1]; exact More.ok _ h
  rw [if_neg h1, if_neg h1]
  by_cases h1 : x.code = 3
  · rw [if_pos h1, if_pos h1]
    split
    · exact More.err _ h
    · exact More.ok _ h
  rw [if_neg h1, if_neg h1]
  by_cases h1 : x.code = 9
  · rw [if_pos h1, if_pos h1]
    split
    · exact More.err _ h
    · rw [h.arrs]
      exact More.ok _ ⟨h.calls, h.out, rfl, h.fuel, h.inp⟩
  rw [if_neg h1, if_neg h1]
  by_cases h1 : x.code = 10
  · rw [if_pos h1, if_pos h1, h.arrOf]; exact More.ok _ h
  rw [if_neg h1, if_neg h1]
  by_cases h1 : x.code = 11
  · rw [if_pos h1, if_pos h1]
    exact (placeR_more h _ _).bind (fun n t t' ht => More.ok _ ht) (fun _ _ => ends_on _ _)
  rw [if_neg h1, if_neg h1]
  by_cases h1 : x.code = 12
  · rw [if_pos h1, if_pos h1]
    exact (placeR_more h _ _).bind (fun n t t' ht => More.ok _ (putArr_more ht _ _ _)) (fun _ t => Goes.ok _ (putArr_goes tells_way t _ _ _))
  rw [if_neg h1, if_neg h1]
  by_cases h1 : x.code = 13
  · rw [if_pos h1, if_pos h1, h.out]
    split
    · exact More.err _ h
    · exact More.ok _ ⟨h.calls, rfl, h.arrs, h.fuel, h.inp⟩
  rw [if_neg h1, if_neg h1]
  by_cases h1 : x.code = 14
  · rw [if_pos h1, if_pos h1, h.inp hp]
    split
    · exact More.ok _ h
    · exact More.ok _ ⟨h.calls, h.out, h.arrs, h.fuel, fun _ => rfl⟩
  rw [if_neg h1, if_neg h1]
  exact More.ok _ h
theorem moreM_all (hp : p) (L : List Fm) : ∀ f, (∀ s s' F v i, Like d p s s' → More d p (goM L f s F v i) (goM L f s' F v i)) ∧ (∀ s s' g vs, Like d p s s' → More d p (callM L f s g vs) (callM L f s' g vs)) := by
  intro f
  induction f with
  | zero => exact ⟨fun s s' F v i _ => by simp only [goM]; exact More.none_ _, fun s s' g vs _ => by simp only [callM]; exact More.none_ _⟩
  | succ f ih =>
    obtain ⟨i1, i2⟩ := ih
    obtain ⟨g1, g2⟩ := goesM_all tells_way L f
    refine ⟨fun s s' F v i h => ?_, fun s s' g vs h => ?_⟩
    · rw [goM, goM]
      split
      · exact More.ok _ h
      · rename_i x _
        have hg : ∀ (t : RS), Goes TellsOn t (if x.code = 4 then goM L f t F v (atP F x.label + 1)
      else if x.code = 5 then (if (v.get x.a).n = 0 then goM L f t F v (atP F x.label + 1) else goM L f t F v (i + 1))
      else if x.code = 7 then bindR (callM L f t x.name (x.args.map v.get)) fun n s => goM L f s F (v.put x.dst (numV n)) (i + 1)
      else if x.code = 8 then okR (v.get x.a).n t
      else bindR (stepM v x t) fun v s => goM L f s F v (i + 1)) := by
          intro t
          split
          · exact g1 _ _ _ _
          split
          · split
            · exact g1 _ _ _ _
            · exact g1 _ _ _ _
          split
          · exact (g2 t _ _).bind tells_way fun n t2 => g1 _ _ _ _
          split
          · exact ends_on _ _
          · exact (stepM_goes tells_way v _ t).bind tells_way fun v2 t2 => g1 _ _ _ _
        refine (stepR_more h).bind (fun _ t t' ht => ?_) (fun _ t' => hg t')
        by_cases h1 : x.code = 4
        · rw [if_pos h1, if_pos h1]; exact i1 _ _ _ _ _ ht
        rw [if_neg h1, if_neg h1]
        by_cases h1 : x.code = 5
        · rw [if_pos h1, if_pos h1]
          split
          · exact i1 _ _ _ _ _ ht
          · exact i1 _ _ _ _ _ ht
        rw [if_neg h1, if_neg h1]
        by_cases h1 : x.code = 7
        · rw [if_pos h1, if_pos h1]
          exact (i2 t t' _ _ ht).bind (fun n t2 t2' ht2 => i1 _ _ _ _ _ ht2) (fun n t2 => g1 _ _ _ _)
        rw [if_neg h1, if_neg h1]
        by_cases h1 : x.code = 8
        · rw [if_pos h1, if_pos h1]; exact More.ok _ ht
        rw [if_neg h1, if_neg h1]
        exact (stepM_more hp ht v x).bind (fun v2 t2 t2' ht2 => i1 _ _ _ _ _ ht2) (fun v2 t2 => g1 _ _ _ _)
    · rw [callM, callM, h.calls]
      split
      · exact More.err _ h
      · have hk : Like d p { s with calls := s.calls + 1 } { s' with calls := s.calls + 1 } := ⟨rfl, h.out, h.arrs, h.fuel, h.inp⟩
        exact (i1 _ _ _ _ _ hk).bind (fun n t t' ht => More.ok _ ⟨by simp only [ht.calls], ht.out, ht.arrs, ht.fuel, ht.inp⟩) (fun n t => Goes.ok _ (tells_way.calls t _))
end more
/-! Rounds enough. -/
def CallSoonM (L : List Fm) (c : Nat) : Prop := ∀ s : RS, s.calls + c = 40 → ∀ g vs, Soon (fun f => callM L f s g vs)
theorem stepM_soon (v : Pl) (x : Stp) (s : RS) : Soon (fun _ => stepM v x s) := by
  cases h : stepM v x s with
  | some y => exact Soon.now y
  | none =>
    exfalso
    unfold stepM at h
    split at h
    · cases h
    split at h
    · cases h
    split at h
    · split at h <;> cases h
    split at h
    · split at h <;> cases h
    split at h
    · cases h
    split at h
    · unfold placeR at h
      split at h <;> cases h
    split at h
    · unfold placeR at h
      split at h <;> cases h
    split at h
    · split at h <;> cases h
    split at h
    · split at h <;> cases h
    · cases h
section soon
variable {L : List Fm} {c : Nat}
theorem callsM_same {α : Type} {s t : RS} {a : α} {x : Nat → RM α} (hk : ∀ f, KeptM s (x f)) (h : ∃ f, x f = some (.ok a, t)) : t.calls = s.calls := by
  obtain ⟨f, hf⟩ := h
  rcases hk f _ hf with ⟨w, hw⟩ | ⟨_, h1⟩
  · cases hw
  · exact h1
theorem burnsM {α : Type} {s t : RS} {a : α} {x : Nat → RM α} (hk : ∀ f, Goes BurnsOn s (x f)) (h : ∃ f, x f = some (.ok a, t)) : t.fuel ≤ s.fuel := by
  obtain ⟨f, hf⟩ := h
  exact hk f _ hf
theorem goM_soon (hc : CallSoonM L c) (n : Nat) : ∀ s : RS, s.calls + c = 40 → s.fuel ≤ n → ∀ F v i, Soon (fun f => goM L f s F v i) := by
  induction n using Nat.strongRecOn with
  | ind n ih =>
    intro s h hn F v i
    cases hx : F.steps[i]? with
    | none => exact (Soon.now (.ok 0, s)).next fun f => by rw [goM, hx]; rfl
    | some x =>
      refine ((stepR_soon s).bind (h := fun f (_ : Unit) s => if x.code = 4 then goM L f s F v (atP F x.label + 1)
        else if x.code = 5 then (if (v.get x.a).n = 0 then goM L f s F v (atP F x.label + 1) else goM L f s F v (i + 1))
        else if x.code = 7 then bindR (callM L f s x.name (x.args.map v.get)) fun n s => goM L f s F (v.put x.dst (numV n)) (i + 1)
        else if x.code = 8 then okR (v.get x.a).n s
        else bindR (stepM v x s) fun v s => goM L f s F v (i + 1)) fun _ t ht => ?_).next fun f => by rw [goM, hx]
      obtain ⟨_, ht⟩ := ht
      have hlt : t.calls + c = 40 ∧ t.fuel < n := by
        unfold stepR at ht
        split at ht
        · cases ht
        · have h3 := Option.some.inj ht
          simp only [Prod.mk.injEq] at h3
          obtain ⟨-, rfl⟩ := h3
          exact ⟨h, by simp only; omega⟩
      obtain ⟨h1, h2⟩ := hlt
      have go := ih t.fuel h2 t h1 (Nat.le_refl _) F
      by_cases e4 : x.code = 4
      · simp only [if_pos e4]; exact go v _
      simp only [if_neg e4]
      by_cases e5 : x.code = 5
      · simp only [if_pos e5]
        by_cases e0 : (v.get x.a).n = 0
        · simp only [if_pos e0]; exact go v _
        · simp only [if_neg e0]; exact go v _
      simp only [if_neg e5]
      by_cases e7 : x.code = 7
      · simp only [if_pos e7]
        refine (hc t h1 x.name (x.args.map v.get)).bind (h := fun f (n : Int) s => goM L f s F (v.put x.dst (numV n)) (i + 1)) fun k t2 ht2 => ?_
        have hk := callsM_same (fun f => (keptM_all L f).2 t _ _) ht2
        have hf := burnsM (fun f => (goesM_all burns_way L f).2 t _ _) ht2
        exact ih t2.fuel (by omega) t2 (by omega) (Nat.le_refl _) F _ _
      simp only [if_neg e7]
      by_cases e8 : x.code = 8
      · simp only [if_pos e8]; exact Soon.now _
      simp only [if_neg e8]
      refine (stepM_soon v x t).bind (h := fun f (v : Pl) s => goM L f s F v (i + 1)) fun v2 t2 ht2 => ?_
      have hk := callsM_same (fun _ => stepM_kept v x t) ht2
      have hf := burnsM (fun _ => stepM_goes burns_way v x t) ht2
      exact ih t2.fuel (by omega) t2 (by omega) (Nat.le_refl _) F _ _
end soon
theorem callM_soon (L : List Fm) : (c : Nat) → CallSoonM L c
  | 0 => fun s h g vs => (Soon.now (.error (.stop 5), s)).next fun f => by simp only [callM]; rw [if_pos (by omega)]; rfl
  | c + 1 => fun s h g vs => by
    have hb := goM_soon (callM_soon L c) s.fuel { s with calls := s.calls + 1 } (by simp only; omega) (Nat.le_refl _) (fmGet L g) (fillP vs (fmGet L g).types.length) 0
    exact (hb.bind (h := fun _ (n : Int) t => okR n { t with calls := t.calls - 1 }) fun _ _ _ => Soon.now _).next fun f => by simp only [callM]; rw [if_neg (by omega)]
/-! Steps as a whole. -/
theorem runM_eq (L : List Fm) (f : Nat) (given : List Int) (fuel : Nat) : runM L f given fuel = (callM L f ⟨given, fuel, 0, [], []⟩ [109, 97, 105, 110] []).map endOf := by
  unfold runM
  cases callM L f ⟨given, fuel, 0, [], []⟩ [109, 97, 105, 110] [] with
  | none => rfl
  | some y =>
    obtain ⟨(w | n) | n, t⟩ := y <;> rfl
theorem runM_soon (L : List Fm) (given : List Int) (fuel : Nat) : ∃ f x, ∀ g, f ≤ g → runM L g given fuel = some x := by
  obtain ⟨f, y, hy⟩ := callM_soon L 40 ⟨given, fuel, 0, [], []⟩ rfl [109, 97, 105, 110] []
  exact ⟨f, endOf y, fun g hg => by have h1 := hy g hg; simp only at h1; rw [runM_eq, h1]; rfl⟩
/-- More fuel is no other road. -/
theorem runM_more {L : List Fm} {f : Nat} {given : List Int} {a b : Nat} {x y : Int × Int × List Int} (h : a ≤ b) (hx : runM L f given a = some x) (hy : runM L f given b = some y) : x.2.2 <+: y.2.2 ∧ (x.1 ≠ 6 → x = y) := by
  rw [runM_eq] at hx hy
  have hm := (moreM_all (p := True) (d := b - a) trivial L f).2 ⟨given, a, 0, [], []⟩ ⟨given, b, 0, [], []⟩ [109, 97, 105, 110] [] ⟨rfl, rfl, rfl, by simp only; omega, fun _ => rfl⟩
  rcases hc : callM L f ⟨given, a, 0, [], []⟩ [109, 97, 105, 110] [] with _ | z
  · rw [hc] at hx; cases hx
  · rw [hc] at hx
    obtain rfl := (Option.some.inj hx).symm
    rcases hm _ hc with ⟨h1, h2, h4⟩ | ⟨t', h1, h2⟩
    · rcases hc' : callM L f ⟨given, b, 0, [], []⟩ [109, 97, 105, 110] [] with _ | z'
      · rw [hc'] at hy; cases hy
      · rw [hc'] at hy
        obtain rfl := (Option.some.inj hy).symm
        have h5 := h4 _ hc'
        obtain ⟨z1, z2⟩ := z
        simp only at h2
        subst h2
        refine ⟨?_, fun h => absurd rfl h⟩
        obtain ⟨(w | n) | n, t⟩ := z' <;> exact h5
    · rw [h1] at hy
      obtain rfl := (Option.some.inj hy).symm
      have he : endOf (z.1, t') = endOf z := by
        obtain ⟨(w | n) | n, t⟩ := z <;> simp only [endOf, h2.out]
      rw [he]
      exact ⟨List.prefix_refl _, fun _ => rfl⟩
end Go.Proofs.YtnicpmoanjddbaaGreatDoor.MidP

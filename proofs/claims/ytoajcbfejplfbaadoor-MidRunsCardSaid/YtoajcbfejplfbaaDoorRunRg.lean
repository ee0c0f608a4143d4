/- Plainly: all numbers of a run have 64 bits. No program in sight. No conditions but that what is given, and the program's own numbers, have. -/
import Derived.Test.YtoajcbfejplfbaaDoorRunPl
import Derived.Test.YtoajcbfejplfbaaDoorAluPlain
namespace Go.Proofs.YtoajcbfejplfbaaDoor.TreeP
open Go.RowKit Go.Proofs.YtoajcbfejplfbaaDoor.AluP
set_option linter.unusedVariables false
set_option linter.unusedSimpArgs false
def RsOk (s : RS) : Prop := (∀ x ∈ s.inp, I64 x) ∧ ∀ l ∈ s.arrs, l.length ≤ 40 ∧ ∀ x ∈ l, I64 x
def VOk (v : V) : Prop := I64 v.n
def FrOk (F : Fr) : Prop := ∀ p ∈ F, VOk p.2
/-- What it comes to is so, and the numbers have 64 bits behind it. -/
def Rg {α : Type} (Q : α → Prop) (x : RM α) : Prop := ∀ y, x = some y → (∀ a, y.1 = .ok a → Q a ∧ RsOk y.2) ∧ ∀ n, y.1 = .error (.ret n) → I64 n ∧ RsOk y.2
theorem Rg.ok {α : Type} {Q : α → Prop} {a : α} {s : RS} (h : Q a) (hs : RsOk s) : Rg Q (okR a s) := by
  intro y hy
  obtain rfl := (Option.some.inj hy).symm
  exact ⟨fun b hb => by cases hb; exact ⟨h, hs⟩, fun n hn => by cases hn⟩
theorem Rg.stop {α : Type} {Q : α → Prop} (w : Int) (s : RS) : Rg Q (stopR w s : RM α) := by
  intro y hy
  obtain rfl := (Option.some.inj hy).symm
  exact ⟨fun b hb => (by cases hb), fun n hn => (by cases hn)⟩
theorem Rg.none {α : Type} {Q : α → Prop} : Rg Q (Option.none : RM α) := fun y hy => by cases hy
theorem Rg.bind {α β : Type} {Q : α → Prop} {R : β → Prop} {x : RM α} {k : α → RS → RM β} (h : Rg Q x) (hk : ∀ a s, Q a → RsOk s → Rg R (k a s)) : Rg R (bindR x k) := by
  cases x with
  | none => exact Rg.none
  | some y =>
    obtain ⟨y, t⟩ := y
    obtain ⟨h1, h2⟩ := h _ rfl
    cases y with
    | ok a =>
      obtain ⟨h3, h4⟩ := h1 a rfl
      exact hk a t h3 h4
    | error e =>
      intro z hz
      obtain rfl := (Option.some.inj hz).symm
      exact ⟨fun b hb => (by cases hb), fun n hn => by cases hn; exact h2 n rfl⟩
theorem i64_zero : I64 0 := by unfold I64; omega
theorem FrOk.get : {F : Fr} → FrOk F → (x : List UInt8) → VOk (F.get x)
  | [], h, x => i64_zero
  | p :: r, h, x => by
    simp only [Fr.get]
    split
    · exact h p List.mem_cons_self
    · exact FrOk.get (fun q hq => h q (List.mem_cons_of_mem _ hq)) x
theorem FrOk.put : {F : Fr} → FrOk F → (x : List UInt8) → (v : V) → VOk v → FrOk (F.put x v)
  | [], h, x, v, hv => by
    intro p hp
    simp only [Fr.put, List.mem_singleton] at hp
    subst hp
    exact hv
  | q :: r, h, x, v, hv => by
    simp only [Fr.put]
    split
    · intro p hp
      rcases List.mem_cons.1 hp with rfl | hp
      · exact hv
      · exact h p (List.mem_cons_of_mem _ hp)
    · intro p hp
      rcases List.mem_cons.1 hp with rfl | hp
      · exact h _ List.mem_cons_self
      · exact FrOk.put (fun q hq => h q (List.mem_cons_of_mem _ hq)) x v hv p hp
theorem FrOk.params : (ps : List (List UInt8 × Int)) → (vs : List V) → {F : Fr} → FrOk F → (∀ v ∈ vs, VOk v) → FrOk (bindParams F ps vs)
  | [], vs, F, h, hv => by simpa [bindParams] using h
  | p :: ps, [], F, h, hv => by simpa [bindParams] using h
  | p :: ps, v :: vs, F, h, hv => by
    simp only [bindParams]
    exact FrOk.params ps vs (h.put p.1 v (hv v List.mem_cons_self)) (fun u hu => hv u (List.mem_cons_of_mem _ hu))
theorem i64_wrap64 (a : Int) : I64 (wrap64 a) := by unfold wrap64 I64; omega
theorem i64_oneB (b : Bool) : I64 (oneB b) := by unfold oneB I64; split <;> omega
theorem i64_two {op : List UInt8} {a b n : Int} (ha : I64 a) (h : twoP op a b = some n) : I64 n := by
  unfold twoP at h
  repeat' split at h
  all_goals
    first
      | (cases h; done)
      | (obtain rfl := Option.some.inj h; first | exact i64_wrap64 _ | exact i64_oneB _ | exact tmod_in _ _ ha)
theorem RsOk.arr {s : RS} (h : RsOk s) (v : V) : (arrOf s v).length ≤ 40 ∧ ∀ x ∈ arrOf s v, I64 x := by
  unfold arrOf
  split
  · rename_i i _
    rw [List.getD_eq_getElem?_getD]
    cases hl : s.arrs[i]? with
    | none => simp
    | some l => exact h.2 l (List.mem_of_getElem? hl)
  · simp
theorem getD_ok {l : List Int} (h : ∀ x ∈ l, I64 x) (i : Nat) : I64 (l.getD i 0) := by
  rw [List.getD_eq_getElem?_getD]
  cases hl : l[i]? with
  | none => exact i64_zero
  | some x => exact h x (List.mem_of_getElem? hl)
theorem RsOk.place {s : RS} (h : RsOk s) (v : V) (i : Int) : Rg I64 (placeR s v i) := by
  unfold placeR
  split
  · exact Rg.stop _ _
  · exact Rg.ok (getD_ok (h.arr v).2 _) h
theorem RsOk.putArr {s : RS} (h : RsOk s) (v : V) (i x : Int) (hx : I64 x) : RsOk (putArr s v i x) := by
  unfold TreeP.putArr
  split
  · rename_i k hk
    refine ⟨h.1, fun l hl => ?_⟩
    rcases List.mem_or_eq_of_mem_set hl with hl | rfl
    · exact h.2 l hl
    · have ha := h.arr v
      unfold arrOf at ha
      rw [hk] at ha
      refine ⟨by rw [List.length_set]; exact ha.1, fun y hy => ?_⟩
      rcases List.mem_or_eq_of_mem_set hy with hy | rfl
      · exact ha.2 y hy
      · exact hx
  · exact h
theorem RsOk.step {s : RS} (h : RsOk s) : Rg (fun _ => True) (stepR s) := by
  unfold stepR
  split
  · exact Rg.stop _ _
  · exact Rg.ok trivial h
def EvRg (L : List Fn) (f : Nat) : Prop := ∀ s F e, RsOk s → FrOk F → NumE e → Rg VOk (evE L f s F e)
def ArRg (L : List Fn) (f : Nat) : Prop := ∀ s F l vs, RsOk s → FrOk F → NumsE l → (∀ v ∈ vs, VOk v) → Rg (fun ws => ∀ v ∈ ws, VOk v) (evA L f s F l vs)
def ClRg (L : List Fn) (f : Nat) : Prop := ∀ s g vs, RsOk s → (∀ v ∈ vs, VOk v) → Rg I64 (callR L f s g vs)
def BkRg (L : List Fn) (f : Nat) : Prop := ∀ s F l, RsOk s → FrOk F → NumSts l → Rg FrOk (blockR L f s F l)
def SmRg (L : List Fn) (f : Nat) : Prop := ∀ s F x, RsOk s → FrOk F → NumSt x → Rg FrOk (stmtR L f s F x)
def WlRg (L : List Fn) (f : Nat) : Prop := ∀ s F v l, RsOk s → FrOk F → NumE v → NumSts l → Rg FrOk (whileR L f s F v l)
theorem fnGet_num {L : List Fn} (hL : ∀ x ∈ L, NumSts x.body) (g : List UInt8) : NumSts (fnGet L g).body := by
  unfold fnGet
  cases hf : fnOf L g with
  | none => simp [NumSts]
  | some x => exact hL x (List.mem_of_find?_eq_some hf)
set_option maxHeartbeats 2000000 in
theorem rg_all {L : List Fn} (hL : ∀ x ∈ L, NumSts x.body) : (f : Nat) → EvRg L f ∧ ArRg L f ∧ ClRg L f ∧ BkRg L f ∧ SmRg L f ∧ WlRg L f
  | 0 => ⟨fun s F e _ _ _ => by simp only [evE]; exact Rg.none, fun s F l vs _ _ _ _ => by simp only [evA]; exact Rg.none, fun s g vs _ _ => by simp only [callR]; exact Rg.none, fun s F l _ _ _ => by simp only [blockR]; exact Rg.none, fun s F x _ _ _ => by simp only [stmtR]; exact Rg.none, fun s F v l _ _ _ _ => by simp only [whileR]; exact Rg.none⟩
  | f + 1 => by
    obtain ⟨he, ha, hc, hb, hs, hw⟩ := rg_all hL f
    refine ⟨?_, ?_, ?_, ?_, ?_, ?_⟩
    · intro s F e h hF hn
      cases e with
      | num a n => simp only [evE, NumE] at hn ⊢; exact Rg.ok (by unfold VOk I64 numV; simp only; omega) h
      | var a x => simp only [evE]; exact Rg.ok (hF.get x) h
      | un a op x =>
        simp only [evE, NumE] at hn ⊢
        refine (he s F x h hF hn).bind fun v t hv ht => Rg.ok ?_ ht
        unfold VOk numV
        simp only
        split
        · exact i64_wrap64 _
        · exact i64_oneB _
      | bin a op l r =>
        simp only [evE, NumE] at hn ⊢
        refine (he s F l h hF hn.1).bind fun v t hv ht => ?_
        split
        · split
          · exact Rg.ok (i64_oneB _) ht
          · exact (he t F r ht hF hn.2).bind fun u t2 hu ht2 => Rg.ok (i64_oneB _) ht2
        · refine (he t F r ht hF hn.2).bind fun u t2 hu ht2 => ?_
          cases h2 : twoP op v.n u.n with
          | none => exact Rg.stop _ _
          | some n => exact Rg.ok (i64_two hv h2) ht2
      | call a g args =>
        simp only [evE, NumE] at hn ⊢
        refine (ha s F args [] h hF hn (fun _ h => nomatch h)).bind fun vs t hv ht => ?_
        exact (hc t g vs ht hv).bind fun n t2 h2 ht2 => Rg.ok h2 ht2
      | new a x =>
        simp only [evE, NumE] at hn ⊢
        refine (he s F x h hF hn).bind fun v t hv ht => ?_
        split
        · exact Rg.stop _ _
        · refine Rg.ok i64_zero ⟨ht.1, fun l hl => ?_⟩
          rcases List.mem_append.1 hl with hl | hl
          · exact ht.2 l hl
          · simp only [List.mem_singleton] at hl
            subst hl
            refine ⟨by rw [List.length_replicate]; omega, fun y hy => ?_⟩
            rw [(List.mem_replicate.1 hy).2]
            exact i64_zero
      | len a x =>
        simp only [evE, NumE] at hn ⊢
        refine (he s F x h hF hn).bind fun v t hv ht => Rg.ok ?_ ht
        have := (ht.arr v).1
        unfold VOk I64 numV
        simp only
        omega
      | item a x i =>
        simp only [evE, NumE] at hn ⊢
        refine (he s F x h hF hn.1).bind fun v t hv ht => ?_
        refine (he t F i ht hF hn.2).bind fun k t2 hk ht2 => ?_
        exact (ht2.place v k.n).bind fun n t3 h3 ht3 => Rg.ok h3 ht3
      | input a =>
        simp only [evE]
        cases hi : s.inp with
        | nil => exact Rg.ok i64_zero h
        | cons n r =>
          have h1 := h.1
          rw [hi] at h1
          exact Rg.ok (h1 n List.mem_cons_self) ⟨fun x hx => h1 x (List.mem_cons_of_mem _ hx), h.2⟩
    · intro s F l vs h hF hn hv
      cases l with
      | nil => simp only [evA]; exact Rg.ok hv h
      | cons e r =>
        simp only [evA, NumsE] at hn ⊢
        refine (he s F e h hF hn.1).bind fun v t hv2 ht => ?_
        refine ha t F r _ ht hF hn.2 fun u hu => ?_
        rcases List.mem_append.1 hu with hu | hu
        · exact hv u hu
        · rw [List.mem_singleton.1 hu]; exact hv2
    · intro s g vs h hv
      simp only [callR]
      split
      · exact Rg.stop _ _
      · have hk := hb { s with calls := s.calls + 1 } (bindParams [] (fnGet L g).params vs) (fnGet L g).body h (FrOk.params _ _ (fun _ h => nomatch h) hv) (fnGet_num hL g)
        intro y hy
        split at hy
        · rename_i a t hx
          obtain rfl := (Option.some.inj hy).symm
          obtain ⟨-, h2⟩ := (hk _ hx).1 a rfl
          exact ⟨fun b hb => by cases hb; exact ⟨i64_zero, h2⟩, fun n hn => by cases hn⟩
        · rename_i n t hx
          obtain rfl := (Option.some.inj hy).symm
          obtain ⟨h1, h2⟩ := (hk _ hx).2 n rfl
          exact ⟨fun b hb => by cases hb; exact ⟨h1, h2⟩, fun n hn => by cases hn⟩
        · rename_i w t hx
          obtain rfl := (Option.some.inj hy).symm
          exact ⟨fun b hb => (by cases hb), fun n hn => (by cases hn)⟩
        · cases hy
    · intro s F l h hF hn
      cases l with
      | nil => simp only [blockR]; exact Rg.ok hF h
      | cons x r =>
        simp only [blockR, NumSts] at hn ⊢
        exact (hs s F x h hF hn.1).bind fun G t hG ht => hb t G r ht hG hn.2
    · intro s F x h hF hn
      simp only [stmtR]
      refine h.step.bind fun _ s _ h => ?_
      cases x with
      | var a n v => simp only [NumSt] at hn ⊢; exact (he s F v h hF hn).bind fun y t hy ht => Rg.ok (hF.put n y hy) ht
      | set a n v => simp only [NumSt] at hn ⊢; exact (he s F v h hF hn).bind fun y t hy ht => Rg.ok (hF.put n y hy) ht
      | put a n i v =>
        simp only [NumSt] at hn ⊢
        refine (he s F i h hF hn.1).bind fun k t hk ht => (he t F v ht hF hn.2).bind fun y t2 hy ht2 => ?_
        exact (ht2.place _ _).bind fun n t3 hn3 ht3 => Rg.ok hF (ht3.putArr _ _ _ hy)
      | cond a v t e =>
        simp only [NumSt] at hn ⊢
        refine (he s F v h hF hn.1).bind fun c u hc hu => ?_
        split
        · exact hb u F t hu hF hn.2.1
        · exact hb u F e hu hF hn.2.2
      | loop a v t => simp only [NumSt] at hn ⊢; exact hw s F v t h hF hn.1 hn.2
      | ret a v =>
        simp only [NumSt] at hn ⊢
        refine (he s F v h hF hn).bind fun y t hy ht => ?_
        intro z hz
        obtain rfl := (Option.some.inj hz).symm
        exact ⟨fun b hb => (by cases hb), fun n hn => by cases hn; exact ⟨hy, ht⟩⟩
      | print a v =>
        simp only [NumSt] at hn ⊢
        refine (he s F v h hF hn).bind fun y t hy ht => ?_
        split
        · exact Rg.stop _ _
        · exact Rg.ok hF ht
      | call a v => simp only [NumSt] at hn ⊢; exact (he s F v h hF hn).bind fun y t hy ht => Rg.ok hF ht
    · intro s F v l h hF hn hl
      simp only [whileR]
      refine (he s F v h hF hn).bind fun c u hc hu => ?_
      split
      · exact (hb u F l hu hF hl).bind fun G t hG ht => ht.step.bind fun _ t2 _ ht2 => hw t2 G v l ht2 hG hn hl
      · exact Rg.ok hF hu
end Go.Proofs.YtoajcbfejplfbaaDoor.TreeP

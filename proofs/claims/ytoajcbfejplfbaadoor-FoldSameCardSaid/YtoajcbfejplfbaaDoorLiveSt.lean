/- Rows of bits, as they lie; how many are not set. Conditions: what is asked lies. Where the search for what is needed stands. Conditions: what is asked lies. -/
import Derived.Test.YtoajcbfejplfbaaDoorLiveUse
namespace Go.Proofs.YtoajcbfejplfbaaDoor.MidP
open Go.RowKit Go.Proofs.YtoajcbfejplfbaaDoor.Wo Go.Maps Go.Proofs.YtoajcbfejplfbaaDoor.TreeP
set_option linter.unusedVariables false
set_option linter.unusedSimpArgs false
def rowSl (tn r : Nat) : Value := .slice (some ⟨r, 0, none⟩) tn tn
def bitsL (tn : Nat) (X : Nat → Bool) : List Value := (List.range tn).map fun p => .bool (X p)
def updB (X : Nat → Nat → Bool) (i p : Nat) : Nat → Nat → Bool := fun j q => if j = i ∧ q = p then true else X j q
/-- Rows of bits: their block, the rows'. -/
structure RowsAt (W : World) (g : Nat) (R : List Nat) (tn : Nat) (X : Nat → Nat → Bool) : Prop where
  blk : Blk W g (R.map (rowSl tn)) 113
  row : ∀ i r, R[i]? = some r → Blk W r (bitsL tn (X i)) 4
  dist : R.Nodup
  out : g ∉ R
theorem RowsAt.mods {W W' : World} {S : Nat → Prop} {g : Nat} {R : List Nat} {tn : Nat} {X : Nat → Nat → Bool} (h : RowsAt W g R tn X) (hm : Mods S W W') (h1 : ¬ S g) (h2 : ∀ r ∈ R, ¬ S r) : RowsAt W' g R tn X :=
  ⟨h.blk.mods hm h1, fun i r hr => (h.row i r hr).mods hm (h2 r (List.mem_of_getElem? hr)), h.dist, h.out⟩
theorem RowsAt.sl {W : World} {g : Nat} {R : List Nat} {tn : Nat} {X : Nat → Nat → Bool} (h : RowsAt W g R tn X) {i : Nat} {r : Nat} (hr : R[i]? = some r) : W.cell? ⟨g, i, none⟩ = some (.slice (some ⟨r, 0, none⟩) tn tn) := h.blk.cell (by rw [List.getElem?_map, hr]; rfl)
theorem RowsAt.bit {W : World} {g : Nat} {R : List Nat} {tn : Nat} {X : Nat → Nat → Bool} (h : RowsAt W g R tn X) {i : Nat} {r : Nat} (hr : R[i]? = some r) {p : Nat} (hp : p < tn) : W.cell? ⟨r, p, none⟩ = some (.bool (X i p)) ∧ W.frozen? ⟨r, p, none⟩ = false :=
  ⟨(h.row i r hr).cell (by unfold bitsL; rw [List.getElem?_map, List.getElem?_range hp]; rfl), (h.row i r hr).free p⟩
theorem RowsAt.set {W : World} {g : Nat} {R : List Nat} {tn : Nat} {X : Nat → Nat → Bool} (h : RowsAt W g R tn X) {i : Nat} {r : Nat} (hr : R[i]? = some r) {p : Nat} (hp : p < tn) : RowsAt (W.setCell ⟨r, p, none⟩ (.bool true)) g R tn (updB X i p) ∧ Mods (· = r) W (W.setCell ⟨r, p, none⟩ (.bool true)) := by
  have hm := mods_set W r p (.bool true)
  have hrm := List.mem_of_getElem? hr
  refine ⟨⟨h.blk.mods hm (fun e => h.out (e ▸ hrm)), fun j r' hr' => ?_, h.dist, h.out⟩, hm⟩
  by_cases hj : j = i
  · subst hj
    rw [hr] at hr'
    obtain rfl := Option.some.inj hr'
    have h1 := (h.row j r hr).set p (.bool true)
    have e : (bitsL tn (X j)).set p (.bool true) = bitsL tn (updB X j p j) := by
      unfold bitsL updB
      apply List.ext_getElem?
      intro q
      by_cases hq : q = p
      · subst hq
        rw [List.getElem?_set_self (by simpa using hp), List.getElem?_map, List.getElem?_range hp]
        simp
      · rw [List.getElem?_set_ne (fun e => hq e.symm), List.getElem?_map, List.getElem?_map]
        cases hq2 : (List.range tn)[q]? with
        | none => rfl
        | some y =>
          have : y = q := by
            obtain ⟨a, b⟩ := List.getElem?_eq_some_iff.1 hq2
            simpa using b.symm
          subst this
          simp [hq]
    rw [e] at h1
    exact h1
  · have hne : r' ≠ r := by
      intro e
      subst e
      obtain ⟨a1, b1⟩ := List.getElem?_eq_some_iff.1 hr
      obtain ⟨a2, b2⟩ := List.getElem?_eq_some_iff.1 hr'
      have hp := List.pairwise_iff_getElem.1 h.dist
      rcases Nat.lt_or_gt_of_ne hj with hlt | hlt
      · exact hp j i a2 a1 hlt (b2.trans b1.symm)
      · exact hp i j a1 a2 hlt (b1.trans b2.symm)
    have e : updB X i p j = X j := by
      funext q
      unfold updB
      simp [hj]
    rw [e]
    exact (h.row j r' hr').mods hm hne
def isF : Value → Bool
  | .bool false => true
  | _ => false
def rowF (W : World) (r : Nat) : Nat := match W.heap[r]? with
  | some (.cells cs _ _) => cs.toList.countP isF
  | _ => 0
/-- How many bits are not set. -/
def falsW (W : World) (R : List Nat) : Nat := (R.map (rowF W)).sum
theorem falsW_eq {W W' : World} : (R : List Nat) → (∀ r ∈ R, W'.heap[r]? = W.heap[r]?) → falsW W' R = falsW W R
  | [], _ => rfl
  | r :: R, h => by
    have ih := falsW_eq (W := W) (W' := W') R (fun x hx => h x (by simp [hx]))
    unfold falsW at *
    simp only [List.map_cons, List.sum_cons, ih]
    unfold rowF
    rw [h r (by simp)]
theorem countP_set (l : List Value) (p : Nat) (h : l[p]? = some (.bool false)) : (l.set p (.bool true)).countP isF < l.countP isF := by
  induction l generalizing p with
  | nil => simp at h
  | cons a r ih =>
    cases p with
    | zero =>
      simp only [List.getElem?_cons_zero, Option.some.injEq] at h
      subst h
      simp [List.countP_cons, isF]
    | succ p =>
      have := ih p (by simpa using h)
      simp only [List.set_cons_succ, List.countP_cons]
      omega
theorem falsW_set {W : World} {r p : Nat} {cs : List Value} {t : TypeId} (hb : Blk W r cs t) (hc : cs[p]? = some (.bool false)) : (R : List Nat) → R.Nodup → r ∈ R → falsW (W.setCell ⟨r, p, none⟩ (.bool true)) R < falsW W R
  | [], _, h => by cases h
  | x :: R, hd, h => by
    have hm := mods_set W r p (.bool true)
    have hd2 := List.nodup_cons.1 hd
    have hlt : ∀ y, y ≠ r → (W.setCell ⟨r, p, none⟩ (.bool true)).heap[y]? = W.heap[y]? := fun y hy => by
      simp [World.setCell, Array.getElem?_modify, Ne.symm hy]
    by_cases hx : x = r
    · subst hx
      have e1 := falsW_eq (W := W) (W' := W.setCell ⟨x, p, none⟩ (.bool true)) R (fun y hy => hlt y (fun e => hd2.1 (e ▸ hy)))
      unfold falsW at *
      simp only [List.map_cons, List.sum_cons, e1]
      have h2 : rowF (W.setCell ⟨x, p, none⟩ (.bool true)) x < rowF W x := by
        unfold rowF
        have hs := hb.set p (.bool true)
        unfold Blk at hs hb
        rw [hs, hb]
        simpa using countP_set cs p hc
      omega
    · have hr : r ∈ R := by
        rcases List.mem_cons.1 h with e | e
        · exact absurd e.symm hx
        · exact e
      have ih := falsW_set hb hc R hd2.2 hr
      unfold falsW at *
      simp only [List.map_cons, List.sum_cons]
      have e2 : rowF (W.setCell ⟨r, p, none⟩ (.bool true)) x = rowF W x := by
        unfold rowF
        rw [hlt x hx]
      omega
theorem falsW_mods {W W' : World} {S : Nat → Prop} {R : List Nat} (hm : Mods S W W') (hR : ∀ r ∈ R, r < W.heap.size ∧ ¬ S r) : falsW W' R = falsW W R := falsW_eq R (fun r hr => hm.block r (hR r hr).1 (hR r hr).2)
end Go.Proofs.YtoajcbfejplfbaaDoor.MidP
namespace Go.Proofs.YtoajcbfejplfbaaDoor.MidP
open Go.RowKit Go.Proofs.YtoajcbfejplfbaaDoor.Wo Go.Maps Go.Proofs.YtoajcbfejplfbaaDoor.TreeP
set_option linter.unusedVariables false
set_option linter.unusedSimpArgs false
/-- Where the rows lie. -/
structure LvE where
  gB : Nat
  gA : Nat
  RB : List Nat
  RA : List Nat
  bm : Nat
  n : Nat
structure LvSt (W : World) (F : Fm) (fs : List Value) (E : LvE) (B A : Nat → Nat → Bool) (wr : World) : Prop where
  b : RowsAt wr E.gB E.RB F.types.length B
  a : RowsAt wr E.gA E.RA F.types.length A
  lb : E.RB.length = F.steps.length
  la : E.RA.length = F.steps.length
  nd : (E.RB ++ E.RA).Nodup
  ga : E.gB ∉ E.RA ∧ E.gA ∉ E.RB ∧ E.gA ≠ E.gB
  far : ∀ r ∈ E.RB ++ E.RA, W.heap.size < r
  bmf : E.bm ∉ E.RB ++ E.RA
  box : Blk wr W.heap.size fs 35
  lab : IntMap wr E.bm E.n (.int .i64 0) (fun l => .int .i64 (labelAt F.steps l 0 0))
  mods : Mods None W wr
  low : ∀ Bc Ac, Closed F Bc Ac → ∀ i p : Nat, i < F.steps.length → p < F.types.length → (B i p = true → Bc i p) ∧ (A i p = true → Ac i p)
theorem LvSt.quiet {W wr w : World} {F : Fm} {fs : List Value} {E : LvE} {B A : Nat → Nat → Bool} (h : LvSt W F fs E B A wr) (hm : Mods None wr w) : LvSt W F fs E B A w :=
  ⟨h.b.mods hm (fun f => f) (fun _ _ f => f), h.a.mods hm (fun f => f) (fun _ _ f => f), h.lb, h.la, h.nd, h.ga, h.far, h.bmf, h.box.mods hm (fun f => f), h.lab.mods hm (fun f => f), h.mods.trans hm, h.low⟩
theorem LvSt.lt {W wr : World} {F : Fm} {fs : List Value} {E : LvE} {B A : Nat → Nat → Bool} (h : LvSt W F fs E B A wr) : ∀ r ∈ E.RB ++ E.RA, r < wr.heap.size := fun r hr => by
  rcases List.mem_append.1 hr with hr | hr
  · obtain ⟨i, hi⟩ := List.mem_iff_getElem?.1 hr
    exact (h.b.row i r hi).lt
  · obtain ⟨i, hi⟩ := List.mem_iff_getElem?.1 hr
    exact (h.a.row i r hi).lt
structure Ps (W : World) (F : Fm) (fs : List Value) (E : LvE) (B0 A0 : Nat → Nat → Bool) (f0 : Nat) (G : Prop) (m : Bool) (B A : Nat → Nat → Bool) (wr : World) : Prop where
  st : LvSt W F fs E B A wr
  keep : m = false → B = B0 ∧ A = A0 ∧ G ∧ falsW wr (E.RB ++ E.RA) = f0
  less : m = true → falsW wr (E.RB ++ E.RA) < f0
theorem Ps.quiet {W wr w : World} {F : Fm} {fs : List Value} {E : LvE} {B0 A0 : Nat → Nat → Bool} {f0 : Nat} {G : Prop} {m : Bool} {B A : Nat → Nat → Bool} (h : Ps W F fs E B0 A0 f0 G m B A wr) (hm : Mods None wr w) : Ps W F fs E B0 A0 f0 G m B A w := by
  have e := falsW_mods hm (R := E.RB ++ E.RA) (fun r hr => ⟨h.st.lt r hr, fun f => f⟩)
  exact ⟨h.st.quiet hm, fun hf => by rw [e]; exact h.keep hf, fun ht => by rw [e]; exact h.less ht⟩
theorem Ps.more {W wr : World} {F : Fm} {fs : List Value} {E : LvE} {B0 A0 : Nat → Nat → Bool} {f0 : Nat} {G G' : Prop} {m : Bool} {B A : Nat → Nat → Bool} (h : Ps W F fs E B0 A0 f0 G m B A wr) (hg : m = false → B = B0 → A = A0 → G → G') : Ps W F fs E B0 A0 f0 G' m B A wr :=
  ⟨h.st, fun hf => by obtain ⟨h1, h2, h3, h4⟩ := h.keep hf; exact ⟨h1, h2, hg hf h1 h2 h3, h4⟩, h.less⟩
theorem Ps.le {W wr : World} {F : Fm} {fs : List Value} {E : LvE} {B0 A0 : Nat → Nat → Bool} {f0 : Nat} {G : Prop} {m : Bool} {B A : Nat → Nat → Bool} (h : Ps W F fs E B0 A0 f0 G m B A wr) : falsW wr (E.RB ++ E.RA) ≤ f0 := by
  cases m with
  | false => exact Nat.le_of_eq (h.keep rfl).2.2.2
  | true => exact Nat.le_of_lt (h.less rfl)
theorem bits_at {tn : Nat} {X : Nat → Bool} {p : Nat} (hp : p < tn) : (bitsL tn X)[p]? = some (.bool (X p)) := by
  unfold bitsL
  rw [List.getElem?_map, List.getElem?_range hp]
  rfl
/-- A bit behind is set. -/
theorem Ps.setB {W wr : World} {F : Fm} {fs : List Value} {E : LvE} {B0 A0 : Nat → Nat → Bool} {f0 : Nat} {G G' : Prop} {m : Bool} {B A : Nat → Nat → Bool} (h : Ps W F fs E B0 A0 f0 G m B A wr) {i r p : Nat} (hr : E.RB[i]? = some r) (hp : p < F.types.length) (hB : B i p = false) (hj : ∀ Bc Ac, Closed F Bc Ac → Bc i p) :
    Ps W F fs E B0 A0 f0 G' true (updB B i p) A (wr.setCell ⟨r, p, none⟩ (.bool true)) := by
  obtain ⟨h1, hm⟩ := h.st.b.set hr hp
  have hrm : r ∈ E.RB := List.mem_of_getElem? hr
  have hrR : r ∈ E.RB ++ E.RA := List.mem_append.2 (Or.inl hrm)
  have hnd := List.nodup_append.1 h.st.nd
  have hrA : r ∉ E.RA := fun h2 => hnd.2.2 r hrm r h2 rfl
  have hf := falsW_set (h.st.b.row i r hr) (by rw [bits_at hp, hB]) (E.RB ++ E.RA) h.st.nd hrR
  have hle := h.le
  refine ⟨⟨h1, h.st.a.mods hm (fun e => h.st.ga.2.1 (e ▸ hrm)) (fun x hx e => hrA (e ▸ hx)), h.st.lb, h.st.la, h.st.nd, h.st.ga, h.st.far, h.st.bmf, h.st.box.mods hm (fun e => by have := h.st.far r hrR; omega), h.st.lab.mods hm (fun e => h.st.bmf (e ▸ hrR)), h.st.mods.trans' hm (fun k hk hl => by have := h.st.far r hrR; omega), fun Bc Ac hc j q hj1 hq => ⟨fun hb => ?_, (h.st.low Bc Ac hc j q hj1 hq).2⟩⟩, (fun hf => by cases hf), fun _ => by omega⟩
  unfold updB at hb
  split at hb
  · rename_i e
    rw [e.1, e.2]
    exact hj Bc Ac hc
  · exact (h.st.low Bc Ac hc j q hj1 hq).1 hb
/-- A bit ahead is set. -/
theorem Ps.setA {W wr : World} {F : Fm} {fs : List Value} {E : LvE} {B0 A0 : Nat → Nat → Bool} {f0 : Nat} {G G' : Prop} {m : Bool} {B A : Nat → Nat → Bool} (h : Ps W F fs E B0 A0 f0 G m B A wr) {i r p : Nat} (hr : E.RA[i]? = some r) (hp : p < F.types.length) (hA : A i p = false) (hj : ∀ Bc Ac, Closed F Bc Ac → Ac i p) :
    Ps W F fs E B0 A0 f0 G' true B (updB A i p) (wr.setCell ⟨r, p, none⟩ (.bool true)) := by
  obtain ⟨h1, hm⟩ := h.st.a.set hr hp
  have hrm : r ∈ E.RA := List.mem_of_getElem? hr
  have hrR : r ∈ E.RB ++ E.RA := List.mem_append.2 (Or.inr hrm)
  have hnd := List.nodup_append.1 h.st.nd
  have hrB : r ∉ E.RB := fun h2 => hnd.2.2 r h2 r hrm rfl
  have hf := falsW_set (h.st.a.row i r hr) (by rw [bits_at hp, hA]) (E.RB ++ E.RA) h.st.nd hrR
  have hle := h.le
  refine ⟨⟨h.st.b.mods hm (fun e => h.st.ga.1 (e ▸ hrm)) (fun x hx e => hrB (e ▸ hx)), h1, h.st.lb, h.st.la, h.st.nd, h.st.ga, h.st.far, h.st.bmf, h.st.box.mods hm (fun e => by have := h.st.far r hrR; omega), h.st.lab.mods hm (fun e => h.st.bmf (e ▸ hrR)), h.st.mods.trans' hm (fun k hk hl => by have := h.st.far r hrR; omega), fun Bc Ac hc j q hj1 hq => ⟨(h.st.low Bc Ac hc j q hj1 hq).1, fun hb => ?_⟩⟩, (fun hf => by cases hf), fun _ => by omega⟩
  unfold updB at hb
  split at hb
  · rename_i e
    rw [e.1, e.2]
    exact hj Bc Ac hc
  · exact (h.st.low Bc Ac hc j q hj1 hq).2 hb
/-- What must hold of a step. -/
def Sat (F : Fm) (B A : Nat → Nat → Bool) (i : Nat) : Prop :=
  (∀ k ∈ followsP F i, ∀ p, p < F.types.length → A k p = true → B i p = true) ∧ (∀ s, F.steps[i]? = some s → ∀ p : Nat, p < F.types.length → B i p = true → (p : Int) ≠ writesP s → A i p = true) ∧ (∀ s, F.steps[i]? = some s → ∀ p : Nat, (p : Int) ∈ usesP s → A i p = true)
theorem labelAt_lt : (A : List Stp) → (l : Int) → (i k B : Nat) → k < B → i + A.length ≤ B → labelAt A l i k < B
  | [], _, _, _, _, hk, _ => hk
  | x :: r, l, i, k, B, hk, hB => by
    simp only [labelAt]
    simp only [List.length_cons] at hB
    refine labelAt_lt r l (i + 1) _ B ?_ (by omega)
    split <;> omega
theorem follows_lt {F : Fm} {i k : Nat} (h : k ∈ followsP F i) : k < F.steps.length ∧ i < F.steps.length := by
  unfold followsP at h
  split at h
  · cases h
  · rename_i s hs
    have hi := (List.getElem?_eq_some_iff.1 hs).1
    refine ⟨?_, hi⟩
    rcases List.mem_append.1 h with h | h
    · split at h
      · simp only [List.mem_singleton] at h
        rw [h]
        unfold atP
        exact labelAt_lt _ _ _ _ _ (by omega) (by omega)
      · cases h
    · split at h
      · rename_i h3
        simp only [List.mem_singleton] at h
        omega
      · cases h
open Classical in
theorem needed_iff {F : Fm} {i : Nat} {p : Int} : neededB F i p = true ↔ Needed F i p := by
  unfold neededB
  exact decide_eq_true_iff
/-- What holds of all steps is what is needed. -/
theorem sat_needed {W wr : World} {F : Fm} {fs : List Value} {E : LvE} {B A : Nat → Nat → Bool} (h : LvSt W F fs E B A wr) (hs : ∀ i, i < F.steps.length → Sat F B A i) (hu : ∀ s ∈ F.steps, ∀ p ∈ usesP s, 0 ≤ p ∧ p < F.types.length) : ∀ i p : Nat, i < F.steps.length → p < F.types.length → B i p = neededB F i (p : Int) := by
  have hc : Closed F (fun i p => ∃ q : Nat, p = q ∧ i < F.steps.length ∧ q < F.types.length ∧ B i q = true) (fun i p => ∃ q : Nat, p = q ∧ i < F.steps.length ∧ q < F.types.length ∧ A i q = true) := by
    refine ⟨fun i k p hk ⟨q, e, h1, h2, h3⟩ => ?_, fun i s p hsi ⟨q, e, h1, h2, h3⟩ hw => ?_, fun i s p hsi hp => ?_⟩
    · have hl := follows_lt hk
      exact ⟨q, e, hl.2, h2, (hs i hl.2).1 k hk q h2 h3⟩
    · exact ⟨q, e, h1, h2, (hs i h1).2.1 s hsi q h2 h3 (e ▸ hw)⟩
    · have hi := (List.getElem?_eq_some_iff.1 hsi).1
      have hb := hu s (List.mem_of_getElem? hsi) p hp
      refine ⟨p.toNat, by omega, hi, by omega, (hs i hi).2.2 s hsi p.toNat ?_⟩
      rw [Int.toNat_of_nonneg hb.1]
      exact hp
  intro i p hi hp
  rw [Bool.eq_iff_iff, needed_iff]
  constructor
  · intro hb Bc Ac hcl
    exact (h.low Bc Ac hcl i p hi hp).1 hb
  · intro hn
    obtain ⟨q, e, _, _, h3⟩ := hn _ _ hc
    have : q = p := by omega
    rw [this] at h3
    exact h3
end Go.Proofs.YtoajcbfejplfbaaDoor.MidP

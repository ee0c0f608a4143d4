/- Which steps may be a program, as the document tells it, plainly: the same. No program in sight. No conditions. Whether places are of types, as the document tells it. Conditions: what it reads lies. -/
import Derived.Test.YtoajcbfejplfbaaDoorFoldAll
import Derived.Test.YtoajcbfejplfbaaDoorRsMem
import Derived.Test.YtoajcbfejplfbaaDoorMidIdx
import Derived.Deep.QuietTactic
import Derived.BigQuiet
import Derived.Deep.DeepCutAuto
namespace Go.Proofs.YtoajcbfejplfbaaDoor.MidP
open Go.RowKit Go.Proofs.YtoajcbfejplfbaaDoor.TreeP
set_option linter.unusedVariables false
set_option linter.unusedSimpArgs false
/-- A place that is there, of a type. -/
def okP (F : Fm) (p t : Int) : Bool := decide (0 ≤ p) && decide (p ≤ (F.types.length : Int) - 1) && F.types.getD p.toNat 0 == t
/-- Places, one by one, of types. -/
def typedP (F : Fm) : List Int → List Int → Bool
  | [], [] => true
  | p :: ps, t :: ts => okP F p t && typedP F ps ts
  | _, _ => false
theorem okP_kind {F : Fm} {p t : Int} (h : t ≠ -1) : okP F p t = (kindP F p == t) := by
  unfold okP kindP
  by_cases hp : p < 0 ∨ p ≥ F.types.length
  · rw [if_pos hp]
    have h1 : ((-1 : Int) == t) = false := by simpa using fun e => h e.symm
    rw [h1]
    rcases hp with hp | hp
    · have : decide (0 ≤ p) = false := by simpa using hp
      rw [this]; rfl
    · have : decide (p ≤ (F.types.length : Int) - 1) = false := by simp; omega
      rw [this]; simp
  · rw [if_neg hp]
    have h1 : decide (0 ≤ p) = true := by simp; omega
    have h2 : decide (p ≤ (F.types.length : Int) - 1) = true := by simp; omega
    rw [h1, h2]
    rfl
theorem typedP_map {F : Fm} : (ps ts : List Int) → (∀ t ∈ ts, t ≠ -1) → typedP F ps ts = (ps.map (kindP F) == ts)
  | [], [], _ => rfl
  | [], t :: ts, _ => rfl
  | p :: ps, [], _ => rfl
  | p :: ps, t :: ts, h => by
    rw [typedP, okP_kind (h t List.mem_cons_self), typedP_map ps ts (fun x hx => h x (List.mem_cons_of_mem _ hx)), List.map_cons]
    show _ = ((kindP F p == t) && (ps.map (kindP F) == ts))
    rfl
/-- How many labels of this name there are. -/
def labN (F : Fm) (l : Int) : Nat := (labs F.steps).count l
/-- Whether a step may be one of a function's, as the document tells it. -/
def refStepB (L : List Fm) (F : Fm) (s : Stp) : Bool :=
  if s.code = 1 ∨ s.code = 14 then typedP F [s.dst] [1]
  else if s.code = 2 then typedP F [s.dst, s.a] [1, 1] || typedP F [s.dst, s.a] [2, 2]
  else if s.code = 3 then typedP F [s.dst, s.a, s.b] [1, 1, 1] && opList.contains s.op
  else if s.code = 4 then decide (0 < labN F s.label)
  else if s.code = 5 then decide (0 < labN F s.label) && typedP F [s.a] [1]
  else if s.code = 6 then true
  else if s.code = 7 then (match L.find? (fun g => g.name == s.name) with
    | none => false
    | some g => typedP F [s.dst] [1] && typedP F s.args (g.types.take g.params.toNat))
  else if s.code = 8 ∨ s.code = 13 then typedP F [s.a] [1]
  else if s.code = 9 then typedP F [s.dst, s.a] [2, 1]
  else if s.code = 10 then typedP F [s.dst, s.a] [1, 2]
  else if s.code = 11 then typedP F [s.dst, s.a, s.b] [1, 2, 1]
  else if s.code = 12 then typedP F [s.a, s.b, s.c] [2, 1, 1]
  else false
def refFnB (L : List Fm) (F : Fm) : Bool :=
  decide (1 ≤ F.steps.length) && decide (F.steps.length ≤ 6000) && decide (F.types.length ≤ 3000)
    && (match F.steps.getLast? with | some s => s.code == 8 || s.code == 4 | none => false)
    && F.types.all (fun t => t == 1 || t == 2) && F.steps.all (fun s => !(decide (1 < labN F s.label) && s.code == 6) && refStepB L F s)
def refB (L : List Fm) : Bool := headsB [] L && L.any (fun f => f.name == [109, 97, 105, 110] && f.params == 0) && decide (L.length ≤ 12) && L.all (refFnB L)
theorem has_count (F : Fm) (l : Int) : decide (0 < labN F l) = hasLabel F l := by
  unfold labN
  rw [Bool.eq_iff_iff, decide_eq_true_eq, List.count_pos_iff, has_iff]
theorem fit_beq {F : Fm} {t p : Int} (ht : 0 < t) : fitB F t p = (kindP F p == t) := by
  unfold fitB
  have h1 : decide (t > 0) = true := by simpa using ht
  rw [h1]
  cases h : (kindP F p == t) with
  | true => simp [bne, h]
  | false => simp [bne, h]
theorem fit_zero {F : Fm} {p : Int} : fitB F 0 p = true := rfl
theorem steps_once (F : Fm) : F.steps.all (fun s => !(decide (1 < labN F s.label) && s.code == 6)) = onceB [] F.steps := by
  rw [Bool.eq_iff_iff, once_iff, List.all_eq_true]
  constructor
  · intro h
    refine ⟨fun l _ h => (by cases h), ?_⟩
    rw [List.nodup_iff_count]
    intro l
    by_cases hl : l ∈ labs F.steps
    · obtain ⟨pre, x, post, h1, h2, h3, -⟩ := lab_split F.steps hl
      have hx : x ∈ F.steps := by rw [h1]; simp
      have := h x hx
      rw [h2, h3] at this
      simp at this
      exact this
    · rw [List.count_eq_zero_of_not_mem hl]; omega
  · rintro ⟨-, h⟩ s hs
    rw [List.nodup_iff_count] at h
    have := h s.label
    simp only [Bool.not_eq_true', Bool.and_eq_false_iff, decide_eq_false_iff_not]
    exact Or.inl (by unfold labN; omega)
/-- With all types there is one answer. -/
theorem refStep_eq {L : List Fm} (hL : ∀ G ∈ L, (0 ≤ G.params ∧ G.params ≤ G.types.length) ∧ ∀ t ∈ G.types, t = 1 ∨ t = 2) {F : Fm} (hF : ∀ t ∈ F.types, t = 1 ∨ t = 2) (s : Stp) : refStepB L F s = rightB L F s := by
  have h1 : (1 : Int) ≠ -1 := by decide
  have h2 : (2 : Int) ≠ -1 := by decide
  have hkind : ∀ p, 0 < kindP F p → kindP F p = 1 ∨ kindP F p = 2 := fun p h => by
    unfold kindP at h ⊢
    split at h
    · omega
    · rename_i hp
      rw [if_neg hp]
      refine hF _ ?_
      rw [List.getD_eq_getElem?_getD, List.getElem?_eq_getElem (by omega)]
      exact List.getElem_mem _
  unfold refStepB rightB
  simp only [typedP, okP_kind h1, okP_kind h2, Bool.and_true, has_count]
  by_cases e2 : s.code = 2
  · rw [if_neg (by omega), if_pos e2, if_pos e2]
    by_cases hd : 0 < kindP F s.dst
    · have hdd : decide (kindP F s.dst > 0) = true := by simpa using hd
      rw [hdd, Bool.true_and]
      rcases hkind _ hd with h | h
      · rw [h]
        cases h3 : (kindP F s.a == 1) with
        | true =>
          have : kindP F s.a = 1 := by simpa using h3
          simp [this]
        | false =>
          have : kindP F s.a ≠ 1 := by simpa using h3
          have h4 : ((1 : Int) == kindP F s.a) = false := by simpa using fun e => this e.symm
          rw [h4]; simp
      · rw [h]
        cases h3 : (kindP F s.a == 2) with
        | true =>
          have : kindP F s.a = 2 := by simpa using h3
          simp [this]
        | false =>
          have : kindP F s.a ≠ 2 := by simpa using h3
          have h4 : ((2 : Int) == kindP F s.a) = false := by simpa using fun e => this e.symm
          rw [h4]; simp
    · have hdd : decide (kindP F s.dst > 0) = false := by simpa using hd
      have h3 : (kindP F s.dst == 1) = false := by simp; omega
      have h4 : (kindP F s.dst == 2) = false := by simp; omega
      rw [hdd, h3, h4]
      rfl
  rw [if_neg e2, if_neg e2]
  by_cases e7 : s.code = 7
  · rw [if_neg (by omega), if_neg (by omega), if_neg (by omega), if_neg (by omega), if_neg (by omega), if_pos e7, if_pos e7]
    cases hg : L.find? (fun g => g.name == s.name) with
    | none => rfl
    | some g =>
      obtain ⟨⟨p0, p1⟩, ht⟩ := hL g (List.mem_of_find?_eq_some hg)
      simp only
      rw [typedP_map _ _ (fun t ht' => by have := ht t (List.take_subset _ _ ht'); omega)]
      by_cases hl : (s.args.length : Int) = g.params
      · have e : g.params.toNat = s.args.length := by omega
        rw [e]
        have : decide ((s.args.length : Int) = g.params) = true := by simpa using hl
        rw [this, Bool.true_and]
      · have : decide ((s.args.length : Int) = g.params) = false := by simpa using hl
        rw [this]
        have h3 : (s.args.map (kindP F) == g.types.take g.params.toNat) = false := by
          rw [beq_eq_false_iff_ne]
          intro e
          have := congrArg List.length e
          rw [List.length_map, List.length_take] at this
          omega
        rw [h3]
        simp
  rw [if_neg e7]
  by_cases hr : s.code < 1 ∨ s.code > 14
  · rw [if_neg e7, if_pos hr]
    repeat (first | rw [if_neg (by omega)] | rfl)
  rw [if_neg e7, if_neg hr]
  have hc : s.code = 1 ∨ s.code = 14 ∨ s.code = 3 ∨ s.code = 4 ∨ s.code = 5 ∨ s.code = 6 ∨ s.code = 8 ∨ s.code = 13 ∨ s.code = 9 ∨ s.code = 10 ∨ s.code = 11 ∨ s.code = 12 := by omega
  rcases hc with e | e | e | e | e | e | e | e | e | e | e | e
  all_goals
    rw [e]
    simp [formsP, fit_beq, fit_zero, Bool.and_assoc]
  all_goals first | done | (rw [Bool.and_comm]; done) | skip
theorem refFn_eq {L : List Fm} (hL : ∀ G ∈ L, (0 ≤ G.params ∧ G.params ≤ G.types.length) ∧ ∀ t ∈ G.types, t = 1 ∨ t = 2) {F : Fm} (hF : ∀ t ∈ F.types, t = 1 ∨ t = 2) : refFnB L F = fnB L F := by
  have hs : F.steps.all (fun s => !(decide (1 < labN F s.label) && s.code == 6) && refStepB L F s) = (onceB [] F.steps && F.steps.all (rightB L F)) := by
    rw [← steps_once]
    have h : ∀ s, refStepB L F s = rightB L F s := fun s => refStep_eq hL hF s
    simp only [h]
    rw [Bool.eq_iff_iff]
    simp only [Bool.and_eq_true, List.all_eq_true]
    exact ⟨fun h => ⟨fun s hs => (h s hs).1, fun s hs => (h s hs).2⟩, fun h s hs => ⟨h.1 s hs, h.2 s hs⟩⟩
  unfold refFnB fnB
  rw [hs]
  obtain ⟨x1, h1⟩ : ∃ x1 : Bool, (match F.steps.getLast? with | some s => s.code == 8 || s.code == 4 | none => false) = x1 := ⟨_, rfl⟩
  have e1 : refFnB.match_1 (fun _ => Bool) F.steps.getLast? (fun s => s.code == 8 || s.code == 4) (fun _ => false) = x1 := by rw [← h1]
  have e2 : fnB.match_1 (fun _ => Bool) F.steps.getLast? (fun s => s.code == 8 || s.code == 4) (fun _ => false) = x1 := by rw [← h1]; cases F.steps.getLast? <;> rfl
  rw [e1, e2]
  clear h1 e1 e2
  generalize F.types.all (fun t => t == 1 || t == 2) = x2
  generalize onceB [] F.steps = x3
  generalize F.steps.all (rightB L F) = x4
  generalize decide (1 ≤ F.steps.length) = x5
  generalize decide (F.steps.length ≤ 6000) = x6
  generalize decide (F.types.length ≤ 3000) = x7
  revert x1 x2 x3 x4 x5 x6 x7
  decide
/-- Which steps may be a program is the same. -/
theorem refB_eq (L : List Fm) : refB L = codeB L := by
  have hcomm : codeB L = (headsB [] L && L.any (fun f => f.name == [109, 97, 105, 110] && f.params == 0) && decide (L.length ≤ 12) && L.all (fnB L)) := by
    unfold codeB
    generalize headsB [] L = x1
    generalize L.any (fun f => f.name == [109, 97, 105, 110] && f.params == 0) = x2
    generalize decide (L.length ≤ 12) = x3
    generalize L.all (fnB L) = x4
    revert x1 x2 x3 x4
    decide
  rw [hcomm]
  unfold refB
  cases hh : headsB [] L with
  | false => rfl
  | true =>
    congr 1
    by_cases ht : ∀ G ∈ L, ∀ t ∈ G.types, t = 1 ∨ t = 2
    · have hL : ∀ G ∈ L, (0 ≤ G.params ∧ G.params ≤ G.types.length) ∧ ∀ t ∈ G.types, t = 1 ∨ t = 2 := fun G hG => ⟨heads_pars L [] hh G hG, ht G hG⟩
      rw [Bool.eq_iff_iff, List.all_eq_true, List.all_eq_true]
      exact ⟨fun h F hF => by rw [← refFn_eq hL (ht F hF)]; exact h F hF, fun h F hF => by rw [refFn_eq hL (ht F hF)]; exact h F hF⟩
    · have hbad : ∃ G ∈ L, G.types.all (fun t => t == 1 || t == 2) = false := by
        simp only [Classical.not_forall] at ht
        obtain ⟨G, hG, t, htm, hn⟩ := ht
        refine ⟨G, hG, ?_⟩
        rw [List.all_eq_false]
        exact ⟨t, htm, by simpa [not_or] using hn⟩
      obtain ⟨G, hG, hb⟩ := hbad
      have h1 : L.all (refFnB L) = false := by
        rw [List.all_eq_false]
        refine ⟨G, hG, ?_⟩
        unfold refFnB
        rw [hb]
        simp
      have h2 : L.all (fnB L) = false := by
        rw [List.all_eq_false]
        refine ⟨G, hG, ?_⟩
        unfold fnB
        rw [hb]
        simp
      rw [h1, h2]
end Go.Proofs.YtoajcbfejplfbaaDoor.MidP
namespace Go.Proofs.YtoajcbfejplfbaaDoor.MidP.R
open Go.RowKit Go.Proofs.YtoajcbfejplfbaaDoor.Wo Go.Maps Go.Proofs.YtoajcbfejplfbaaDoor.TreeP Go.Proofs.YtoajcbfejplfbaaDoor.MidP
set_option linter.unusedVariables false
set_option linter.unusedSimpArgs false
theorem rin_true (n a b : Int) (W : World) (h1 : a ≤ n) (h2 : n ≤ b) :
    Calls Tryd.prog 30 #[.int .i64 n, .int .i64 a, .int .i64 b] W fun e W' => e = .returned (.bool true) ∧ W = W' := by
  have h := in_any n a b W
  rw [show decide (a ≤ n ∧ n ≤ b) = true from decide_eq_true ⟨h1, h2⟩] at h
  exact h
theorem rin_false (n a b : Int) (W : World) (h : ¬ (a ≤ n ∧ n ≤ b)) :
    Calls Tryd.prog 30 #[.int .i64 n, .int .i64 a, .int .i64 b] W fun e W' => e = .returned (.bool false) ∧ W = W' := by
  have h0 := in_any n a b W
  rw [show decide (a ≤ n ∧ n ≤ b) = false from decide_eq_false h] at h0
  exact h0
theorem rin_quiet (b : Bool) {n a c : Int} {W : World} (h : ∀ w : World, Calls Tryd.prog 30 #[.int .i64 n, .int .i64 a, .int .i64 c] w fun e W' => e = .returned (.bool b) ∧ w = W') (d : Nat) :
    Calls Tryd.prog 30 #[.int .i64 n, .int .i64 a, .int .i64 c] (W.drewN d) fun e w => e = .returned (.bool b) ∧ ∃ m, w = W.drewN m :=
  (h (W.drewN d)).mono fun e w ⟨h1, h2⟩ => ⟨h1, d, h2.symm⟩
theorem typed_iff {F : Fm} : (ps ts : List Int) → (typedP F ps ts = true ↔ ps.length = ts.length ∧ ∀ (i : Nat) (p t : Int), ps[i]? = some p → ts[i]? = some t → okP F p t = true)
  | [], [] => by simp [typedP]
  | [], t :: ts => by simp [typedP]
  | p :: ps, [] => by simp [typedP]
  | p :: ps, t :: ts => by
    rw [typedP, Bool.and_eq_true, typed_iff ps ts]
    constructor
    · rintro ⟨h1, h2, h3⟩
      refine ⟨by simp [h2], fun i q u hq hu => ?_⟩
      cases i with
      | zero => simp at hq hu; subst hq hu; exact h1
      | succ i => simp at hq hu; exact h3 i q u hq hu
    · rintro ⟨h1, h2⟩
      refine ⟨h2 0 p t rfl rfl, by simpa using h1, fun i q u hq hu => h2 (i + 1) q u (by simpa using hq) (by simpa using hu)⟩
theorem typed_no {F : Fm} {ps ts : List Int} {i : Nat} {p t : Int} (h1 : ps[i]? = some p) (h2 : ts[i]? = some t) (h : okP F p t = false) : typedP F ps ts = false := by
  cases e : typedP F ps ts with
  | false => rfl
  | true => rw [(typed_iff ps ts).1 e |>.2 i p t h1 h2] at h; cases h
set_option maxRecDepth 100000 in
set_option maxHeartbeats 1000000 in
theorem typed_any (F : Fm) (ps ts : List Int) (fv pv tv : Value) (W : World) (hF : FmV W None F fv) (hP : IntsAt W None pv ps) (hT : IntsAt W None tv ts) :
    Calls Tryd.prog 48 #[fv, pv, tv] W fun e w => e = .returned (.bool (typedP F ps ts)) ∧ Mods None W w := by
  obtain ⟨ta, tc, sa, sc, rfl, hty, -⟩ := hF
  obtain ⟨pa, pc, rfl, hp1, hp2, -⟩ := hP.form
  obtain ⟨ua, uc, rfl, hu1, hu2, -⟩ := hT.form
  obtain ⟨_, _, hf, hn1, hn2, -⟩ := hty.form
  obtain ⟨-, -, rfl⟩ := Value.slice.inj hf
  obtain ⟨R, hR⟩ : ∃ R, R = typedP F ps ts := ⟨_, rfl⟩
  have HR := Lib.hid hR
  rw [← hR]
  obtain ⟨pn, hpn⟩ : ∃ pn, pn = ps.length := ⟨_, rfl⟩
  obtain ⟨un, hun⟩ : ∃ un, un = ts.length := ⟨_, rfl⟩
  obtain ⟨fn, hfn⟩ : ∃ fn, fn = F.types.length := ⟨_, rfl⟩
  rw [← hpn] at hp1 ⊢
  rw [← hun] at hu1 ⊢
  rw [← hfn] at hn1 ⊢
  have HN := Lib.hid (And.intro hpn (And.intro hun hfn))
  have HP := Lib.hid hP
  have HT := Lib.hid hT
  have HY := Lib.hid hty
  clear hpn hun hfn hP hT hty hR hf
  obtain ⟨W3, hW3⟩ : ∃ W3, W3 = W.alloc (.cells #[str F.name, .int .i64 F.params, .slice ta fn tc, .slice sa F.steps.length sc] 64) := ⟨_, rfl⟩
  have HM3 : Hid (Mods None W W3) := Lib.hid (by rw [hW3]; exact (Mods.refl _ _).alloc _)
  have HB : Hid (Blk W3 W.heap.size [str F.name, .int .i64 F.params, .slice ta fn tc, .slice sa F.steps.length sc] 64) := Lib.hid (by rw [hW3]; exact Blk.new W _ _)
  by_cases hl : pn = un
  rotate_left
  · have e : R = false := by
      rw [HR.out]
      cases h : typedP F ps ts with
      | false => rfl
      | true => exact absurd ((typed_iff ps ts).1 h).1 (by rw [← HN.out.1, ← HN.out.2.1]; exact hl)
    subst e
    have hb : ((pn : Int) != un) = true := by simp; omega
    unfold str at *
    go_enter Tryd.func48, Tryd.ntmps48
    go_wp2_with fail
    go_ret
    exact ⟨rfl, by rw [← hW3]; exact HM3.out⟩
  · subst hl
    have hb : ((pn : Int) != pn) = false := by simp
    have hpu : pn ≤ uc := hu1
    go_enter Tryd.func48, Tryd.ntmps48
    unfold str at hW3 ⊢
    go_upto_region 3 with (fail)
    rw [← hW3]
    clear hW3 hb
    have HOK : Hid (∀ (j : Nat) (p t : Int), ps[j]? = some p → ts[j]? = some t → okP F p t = true) → R = true := fun h => by
      rw [HR.out]
      exact (typed_iff ps ts).2 ⟨by rw [← HN.out.1, ← HN.out.2.1], h.out⟩
    have HOK := Lib.hid HOK
    have HNO := Lib.hid (fun (i : Nat) (p t : Int) (h1 : ps[i]? = some p) (h2 : ts[i]? = some t) (h : okP F p t = false) => (by rw [HR.out]; exact typed_no h1 h2 h : R = false))
    clear HR
    go_wp2_with fail
    go_loopw [16] (fun iv wr => ∃ i : Nat, i ≤ pn ∧ iv = .int .i64 (i : Int) ∧ Hid (∀ (j : Nat) (p t : Int), j < i → ps[j]? = some p → ts[j]? = some t → okP F p t = true) ∧ Hid (Mods None W3 wr)) (fun iv _ => (pn - intOf iv).toNat)
    case atStart => exact ⟨0, Nat.zero_le _, rfl, Lib.hid (fun j p t h => by omega), Lib.hid (Mods.refl _ _)⟩
    case round =>
      obtain ⟨w0, rfl⟩ : ∃ w0 : World, w0 = wr := ⟨_, rfl⟩
      obtain ⟨i, hi, rfl, HA, HM⟩ := hrel
      have HALL : Hid (Mods None W w0) := Lib.hid (HM3.out.trans HM.out)
      have b2 : w0.cell? ⟨W.heap.size, 2, none⟩ = some (.slice ta fn tc) := (HB.out.mods HM.out (fun f => f)).cell rfl
      by_cases hlt : i < pn
      · have hil : i < ps.length := by rw [← HN.out.1]; exact hlt
        have hul : i < ts.length := by rw [← HN.out.2.1]; exact hlt
        obtain ⟨p, hp⟩ : ∃ p, ps[i]? = some p := ⟨_, List.getElem?_eq_getElem hil⟩
        obtain ⟨t, ht⟩ : ∃ t, ts[i]? = some t := ⟨_, List.getElem?_eq_getElem hul⟩
        have hpe : ps[i] = p := (List.getElem?_eq_some_iff.1 hp).2
        have hte : ts[i] = t := (List.getElem?_eq_some_iff.1 ht).2
        obtain ⟨pg, po, he1, pcell⟩ := (HP.out.mods HALL.out (fun _ _ k => k)).get hil
        obtain ⟨ug, uo, he2, ucell⟩ := (HT.out.mods HALL.out (fun _ _ k => k)).get hul
        rw [hpe] at pcell
        rw [hte] at ucell
        subst he1 he2
        have HX := Lib.hid (And.intro hp ht)
        have hpi : (i : Int) < (pn : Int) := by omega
        clear hil hul hp ht hpe hte
        by_cases hin : 0 ≤ p ∧ p ≤ (fn : Int) - 1
        · obtain ⟨k, rfl⟩ : ∃ k : Nat, p = (k : Int) := ⟨p.toNat, by omega⟩
          have hk : k < F.types.length := by rw [← HN.out.2.2]; omega
          have HIN := Lib.hid (rin_quiet (W := w0) true (fun w => rin_true (k : Int) 0 ((fn : Int) - 1) w hin.1 hin.2))
          obtain ⟨fg, fo, he3, fcell⟩ := (HY.out.mods HALL.out (fun _ _ k => k)).get hk
          subst he3
          obtain ⟨u, hu⟩ : ∃ u, u = F.types[k] := ⟨_, rfl⟩
          rw [← hu] at fcell
          have hko : okP F (k : Int) t = (u == t) := by
            unfold okP
            have h1 : decide (0 ≤ (k : Int)) = true := by simp
            have h2 : decide ((k : Int) ≤ (F.types.length : Int) - 1) = true := by simp; omega
            rw [h1, h2, Int.toNat_natCast, List.getD_eq_getElem?_getD, List.getElem?_eq_getElem hk, hu]
            rfl
          have HKO := Lib.hid hko
          have hkf : (k : Int) < (fn : Int) := by omega
          clear hko hk hin hu
          by_cases hut : u = t
          · have hb : (u != t) = false := by simp [hut]
            have HU := Lib.hid hut
            clear hut
            go_wp2_with fail
            go_quiet ((go_at_call 30; exact HIN.out _))
            go_wp2_with fail
            exact ⟨⟨i + 1, by omega, by go_num, Lib.hid (fun j q v hj h1 h2 => by
              rcases Nat.lt_or_ge j i with h | h
              · exact HA.out j q v h h1 h2
              · obtain rfl : j = i := by omega
                rw [HX.out.1] at h1
                rw [HX.out.2] at h2
                obtain rfl := Option.some.inj h1
                obtain rfl := Option.some.inj h2
                rw [HKO.out, HU.out]
                simp), Lib.hid (HM.out.drewN _)⟩, by simp [intOf]; omega⟩
          · have hb : (u != t) = true := by simpa using hut
            have e : R = false := HNO.out i (k : Int) t HX.out.1 HX.out.2 (by rw [HKO.out]; simpa using hut)
            subst e
            clear hut
            go_wp2_with fail
            go_quiet ((go_at_call 30; exact HIN.out _))
            go_wp2_with fail
            go_ret
            exact ⟨rfl, HALL.out.drewN _⟩
        · have HIN := Lib.hid (rin_quiet (W := w0) false (fun w => rin_false p 0 ((fn : Int) - 1) w hin))
          have e : R = false := HNO.out i p t HX.out.1 HX.out.2 (by
            unfold okP
            rw [Bool.and_eq_false_iff, Bool.and_eq_false_iff, decide_eq_false_iff_not, decide_eq_false_iff_not, ← HN.out.2.2]
            omega)
          subst e
          clear hin
          go_wp2_with fail
          go_quiet ((go_at_call 30; exact HIN.out _))
          go_wp2_with fail
          go_ret
          exact ⟨rfl, HALL.out.drewN _⟩
      · obtain rfl : i = pn := by omega
        have hpi : ¬ (i : Int) < (i : Int) := by omega
        have e : R = true := HOK.out (Lib.hid (fun j p t h1 h2 => HA.out j p t (by have := (List.getElem?_eq_some_iff.1 h1).1; rw [← HN.out.1] at this; exact this) h1 h2))
        subst e
        go_wp2_with fail
        go_ret
        exact ⟨rfl, HALL.out⟩
end Go.Proofs.YtoajcbfejplfbaaDoor.MidP.R

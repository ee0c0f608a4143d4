/- The document's world as it lies in memory, for the steps; what it calls at the bottom. Printed by mkrs.py. Conditions: what it has lies. -/
import Derived.Test.YtoajcbfejplfbaaDoorMidArr
import Derived.Test.YtoajcbfejplfbaaDoorMidRBoth
import Derived.Test.YtoajcbfejplfbaaDoorStepApp
namespace Go.Proofs.YtoajcbfejplfbaaDoor.MidP.R
open Go.RowKit Go.Proofs.YtoajcbfejplfbaaDoor.Wo Go.Proofs.YtoajcbfejplfbaaDoor.TreeP Go.Proofs.YtoajcbfejplfbaaDoor.MidP
set_option linter.unusedVariables false
set_option linter.unusedSimpArgs false
/-- An array's slice, by where it lies and how many numbers it has. -/
def arrV (p : Nat × Nat) : Value := .slice (some ⟨p.1, 0, none⟩) p.2 p.2
/-- What a slice of the runner's own lies in. -/
def Mine (M : Nat → Prop) (b : Nat) (A : List (Nat × Nat)) (v : Value) : Prop := ∀ k, v.ownBlock = some k → M k ∧ k ≠ b ∧ ∀ g n, (g, n) ∈ A → g ≠ k
/-- The document's world at b. P: the blocks of what is given; M: the blocks that a run may turn; A: its arrays. -/
structure WAt (W : World) (b : Nat) (P M : Nat → Prop) (A : List (Nat × Nat)) (s : RS) : Prop where
  blk : ∃ av iv k ov, Blk W b [av, iv, .int .i64 k, .int .i64 s.calls, .int .i64 0, .int .i64 0, ov] 86 ∧ (s.fuel = k.toNat ∧ -9223372036854775808 ≤ k ∧ k ≤ 4000000000000000000) ∧ MidP.InAt W (fun k => ¬ P k) iv s.inp ∧ W.ownsRow 0 2 1 ov s.out.length (s.out.map (.int .i64)) ∧ Mine M b A ov ∧ W.ownsRow 0 23 1 av (A.length + 1) (.slice none 0 0 :: A.map arrV) ∧ Mine M b A av ∧ (∀ k, av.ownBlock = some k → ov.ownBlock ≠ some k)
  has : M b
  arrs : A.length = s.arrs.length
  arr : ∀ (i : Nat) (l : List Int), s.arrs[i]? = some l → ∃ g, A[i]? = some (g, l.length) ∧ Blk W g (l.map (.int .i64)) 2 ∧ l.length ≤ 40
  mine : ∀ g n, (g, n) ∈ A → M g ∧ g ≠ b
  apart : A.Pairwise (fun x y => x.1 ≠ y.1)
  old : ∀ k, M k → k < W.heap.size
  off : ∀ k, M k → ¬ P k
  given : ∀ k, P k → k < W.heap.size
  few : s.out.length ≤ 200
  calls : s.calls ≤ 40
/-- It has ended: in which way, what it told. -/
structure WEnd (W : World) (b : Nat) (P M : Nat → Prop) (way : Int) (out : List Int) : Prop where
  blk : ∃ av iv k c ov m r, Blk W b [av, iv, .int .i64 k, .int .i64 c, .int .i64 way, .int .i64 0, ov] 86 ∧ W.ownsRow 0 2 1 ov out.length (out.map (.int .i64)) ∧ (∀ k, ov.ownBlock = some k → M k ∧ k ≠ b) ∧ W.ownsRow 0 23 1 av (m + 1) (.slice none 0 0 :: r) ∧ (∀ k, av.ownBlock = some k → M k ∧ k ≠ b)
  has : M b
  old : ∀ k, M k → k < W.heap.size
  off : ∀ k, M k → ¬ P k
  given : ∀ k, P k → k < W.heap.size
  few : out.length ≤ 200
  way : 2 ≤ way ∧ way ≤ 7
theorem WAt.aside {W W' : World} {b : Nat} {P M S : Nat → Prop} {A : List (Nat × Nat)} {s : RS} (h : WAt W b P M A s) (hm : Mods S W W') (hS : ∀ k, S k → ¬ M k ∧ ¬ P k) : WAt W' b P M A s := by
  have hmP : Mods (fun k => ¬ P k) W W' := hm.mono fun k _ f => (hS k f).2
  obtain ⟨av, iv, k, ov, h1, h2, h3, h4, h5, h6, h7, h8⟩ := h.blk
  exact ⟨⟨av, iv, k, ov, h1.mods hm (fun f => (hS _ f).1 h.has), h2, h3.mods hmP (fun _ _ k => k), hm.ownsRow h4 (fun k hk f => (hS _ f).1 (h5 k hk).1), h5, hm.ownsRow h6 (fun k hk f => (hS _ f).1 (h7 k hk).1), h7, h8⟩, h.has, h.arrs,
    fun i l hl => by obtain ⟨g, e1, e2, e3⟩ := h.arr i l hl; exact ⟨g, e1, e2.mods hm (fun f => (hS _ f).1 (h.mine g _ (List.mem_of_getElem? e1)).1), e3⟩, h.mine, h.apart, fun k hk => Nat.lt_of_lt_of_le (h.old k hk) hm.size, h.off, fun k hk => Nat.lt_of_lt_of_le (h.given k hk) hm.size, h.few, h.calls⟩
theorem WAt.quiet {W W' : World} {b : Nat} {P M : Nat → Prop} {A : List (Nat × Nat)} {s : RS} (h : WAt W b P M A s) (hm : Mods None W W') : WAt W' b P M A s := h.aside hm (fun _ f => f.elim)
theorem WEnd.aside {W W' : World} {b : Nat} {P M S : Nat → Prop} {way : Int} {out : List Int} (h : WEnd W b P M way out) (hm : Mods S W W') (hS : ∀ k, S k → ¬ M k) : WEnd W' b P M way out := by
  obtain ⟨av, iv, k, c, ov, m, r, h1, h4, h5, h6, h7⟩ := h.blk
  exact ⟨⟨av, iv, k, c, ov, m, r, h1.mods hm (fun f => hS _ f h.has), hm.ownsRow h4 (fun k hk f => hS _ f (h5 k hk).1), h5, hm.ownsRow h6 (fun k hk f => hS _ f (h7 k hk).1), h7⟩, h.has, fun k hk => Nat.lt_of_lt_of_le (h.old k hk) hm.size, h.off, fun k hk => Nat.lt_of_lt_of_le (h.given k hk) hm.size, h.few, h.way⟩
theorem WEnd.quiet {W W' : World} {b : Nat} {P M : Nat → Prop} {way : Int} {out : List Int} (h : WEnd W b P M way out) (hm : Mods None W W') : WEnd W' b P M way out := h.aside hm (fun _ f => f.elim)
/-- The world's own cells turn. -/
theorem WAt.own {W W' : World} {b : Nat} {P M : Nat → Prop} {A : List (Nat × Nat)} {s s' : RS} (h : WAt W b P M A s) (hm : Mods (· = b) W W') (ho : s'.out = s.out) (ha : s'.arrs = s.arrs) (hc : s'.calls ≤ 40)
    (hb : ∀ av iv k ov, Blk W b [av, iv, .int .i64 k, .int .i64 s.calls, .int .i64 0, .int .i64 0, ov] 86 → (s.fuel = k.toNat ∧ -9223372036854775808 ≤ k ∧ k ≤ 4000000000000000000) → MidP.InAt W (fun k => ¬ P k) iv s.inp → ∃ iv' k', Blk W' b [av, iv', .int .i64 k', .int .i64 s'.calls, .int .i64 0, .int .i64 0, ov] 86 ∧ (s'.fuel = k'.toNat ∧ -9223372036854775808 ≤ k' ∧ k' ≤ 4000000000000000000) ∧ MidP.InAt W (fun k => ¬ P k) iv' s'.inp) : WAt W' b P M A s' := by
  obtain ⟨av, iv, k, ov, h1, h2, h3, h4, h5, h6, h7, h8⟩ := h.blk
  have hmP : Mods (fun k => ¬ P k) W W' := hm.mono fun k _ hk => by rw [hk]; exact h.off b h.has
  obtain ⟨iv', k', k1, k2, k3⟩ := hb av iv k ov h1 h2 h3
  refine ⟨⟨av, iv', k', ov, k1, k2, k3.mods hmP (fun _ _ k => k), ?_, h5, hm.ownsRow h6 (fun k hk => (h7 k hk).2.1), h7, h8⟩, h.has, by rw [ha]; exact h.arrs, ?_, h.mine, h.apart, fun k hk => Nat.lt_of_lt_of_le (h.old k hk) hm.size, h.off, fun k hk => Nat.lt_of_lt_of_le (h.given k hk) hm.size, by rw [ho]; exact h.few, hc⟩
  · rw [ho]
    exact hm.ownsRow h4 (fun k hk => (h5 k hk).2.1)
  · intro i l hl
    rw [ha] at hl
    obtain ⟨g, e1, e2, e3⟩ := h.arr i l hl
    exact ⟨g, e1, e2.mods hm (fun e => (h.mine g _ (List.mem_of_getElem? e1)).2 e), e3⟩
theorem WAt.setFuel {W : World} {b : Nat} {P M : Nat → Prop} {A : List (Nat × Nat)} {s : RS} (h : WAt W b P M A s) (k : Int) (hk : -9223372036854775808 ≤ k ∧ k ≤ 4000000000000000000) : WAt (W.setCell ⟨b, 2, none⟩ (.int .i64 k)) b P M A { s with fuel := k.toNat } :=
  h.own (mods_put _ _ _ _) rfl rfl h.calls (fun av iv k0 ov h1 h2 h3 => ⟨iv, k, h1.set 2 _, ⟨rfl, hk⟩, h3⟩)
theorem WAt.setCalls {W : World} {b : Nat} {P M : Nat → Prop} {A : List (Nat × Nat)} {s : RS} (h : WAt W b P M A s) (k : Nat) (hk : k ≤ 40) : WAt (W.setCell ⟨b, 3, none⟩ (.int .i64 k)) b P M A { s with calls := k } :=
  h.own (mods_put _ _ _ _) rfl rfl hk (fun av iv k0 ov h1 h2 h3 => ⟨iv, k0, h1.set 3 _, h2, h3⟩)
theorem WAt.ends {W : World} {b : Nat} {P M : Nat → Prop} {A : List (Nat × Nat)} {s : RS} (h : WAt W b P M A s) (way : Int) (hw : 2 ≤ way ∧ way ≤ 7) : WEnd (W.setCell ⟨b, 4, none⟩ (.int .i64 way)) b P M way s.out := by
  obtain ⟨av, iv, k, ov, h1, h2, h3, h4, h5, h6, h7, h8⟩ := h.blk
  have hm := mods_put W b 4 (.int .i64 way)
  exact ⟨⟨av, iv, k, s.calls, ov, A.length, A.map arrV, h1.set 4 _, hm.ownsRow h4 (fun k hk => (h5 k hk).2.1), fun k hk => ⟨(h5 k hk).1, (h5 k hk).2.1⟩, hm.ownsRow h6 (fun k hk => (h7 k hk).2.1), fun k hk => ⟨(h7 k hk).1, (h7 k hk).2.1⟩⟩, h.has, fun k hk => Nat.lt_of_lt_of_le (h.old k hk) hm.size, h.off, fun k hk => Nat.lt_of_lt_of_le (h.given k hk) hm.size, h.few, hw⟩
theorem WAt.ext {W : World} {b : Nat} {P M : Nat → Prop} {A : List (Nat × Nat)} {s : RS} (h : WAt W b P M A s) (T : Nat → Prop) (i : Nat) (v : Value) : Ext T M M W (W.setCell ⟨b, i, none⟩ v) :=
  ⟨(mods_put _ _ _ _).mono (fun k _ hk => Or.inr (by rw [hk]; exact h.has)), fun _ _ k => k⟩
/-- How a part ends: the world behind it goes on, or has ended. -/
def Zan {α : Type} (W : World) (b : Nat) (P T M : Nat → Prop) (A : List (Nat × Nat)) (ok : α → List (Nat × Nat) → Ending → Prop) (no : Ending → Prop) : Except Sig α × RS → Ending → World → Prop
  | (.error (.stop n), s) => fun e w => no e ∧ ∃ M', WEnd w b P M' n s.out ∧ Ext T M M' W w
  | (.error (.ret _), _) => fun _ _ => False
  | (.ok x, s) => fun e w => ∃ M' A', ok x A' e ∧ WAt w b P M' A' s ∧ Ext T M M' W w ∧ A <+: A'
theorem ends_any (way : Int) (hw : 2 ≤ way ∧ way ≤ 7) (b : Nat) (P M : Nat → Prop) (A : List (Nat × Nat)) (s : RS) (W : World) (h : WAt W b P M A s) :
    Calls Tryd.prog 74 #[.pointer (some ⟨b, 0, none⟩), .int .i64 way] W fun e w => e = .returned (.tuple #[]) ∧ WEnd w b P M way s.out ∧ ∀ T, Ext T M M W w := by
  obtain ⟨av, iv, k, ov, hb, -⟩ := h.blk
  have f4 : W.frozen? ⟨b, 4, none⟩ = false := hb.free 4
  have c4 : W.cell? ⟨b, 4, none⟩ = some (.int .i64 0) := hb.cell rfl
  have H := Lib.hid h
  have HW := Lib.hid hw
  clear h hb hw
  go_enter Tryd.func74, Tryd.ntmps74
  go_wp2_with fail
  go_end0
  exact ⟨rfl, H.out.ends way HW.out, fun T => H.out.ext _ _ _⟩
theorem sl_form {W : World} {B : Nat} {e : TypeId} {size n : Nat} {v : Value} {vs : List Value} (h : W.ownsRow B e size v n vs) : ∃ oa oc, v = .slice oa n oc := by
  rcases h.2 with ⟨hv, h0⟩ | ⟨g, cap, cur, hv, _⟩
  · exact ⟨_, _, by rw [hv, h0]⟩
  · exact ⟨_, _, hv⟩
set_option maxRecDepth 100000 in
theorem spend_any (T : Nat → Prop) (b : Nat) (P M : Nat → Prop) (A : List (Nat × Nat)) (s : RS) (W : World) (r : Except Sig Unit × RS) (h : WAt W b P M A s) (hr : stepR s = some r) :
    Calls Tryd.prog 55 #[.pointer (some ⟨b, 0, none⟩)] W (Zan W b P T M A (fun _ _ e => e = .returned (.bool true)) (fun e => e = .returned (.bool false)) r) := by
  obtain ⟨av, iv, k, ov, hb, ⟨hk1, hk2, hk3⟩, -⟩ := h.blk
  have c2 : W.cell? ⟨b, 2, none⟩ = some (.int .i64 k) := hb.cell rfl
  have f2 : W.frozen? ⟨b, 2, none⟩ = false := hb.free 2
  have H := Lib.hid h
  unfold stepR at hr
  by_cases h0 : k ≤ 0
  · rw [if_pos (by omega)] at hr
    obtain rfl := (Option.some.inj hr).symm
    clear hb hr hk1 hk2 hk3 h
    go_enter Tryd.func55, Tryd.ntmps55
    go_wp2_with fail
    go_at_call 74
    refine (ends_any 6 (by decide) b P M A s W H.out).mono ?_
    rintro e w ⟨rfl, h1, h2⟩
    go_wp2_with fail
    go_ret
    unfold Zan
    exact ⟨rfl, M, h1, h2 T⟩
  · rw [if_neg (by omega)] at hr
    obtain rfl := (Option.some.inj hr).symm
    have hs1 : ¬ (k - 1 < -9223372036854775808) := by omega
    have HK := Lib.hid (And.intro hk1 (And.intro hk2 hk3))
    have H0 := Lib.hid h0
    have hw : IntKind.i64.wrap (k - 1) = k - 1 := IntWalk.i64_in _ (by omega)
    clear hb hr hk1 h
    go_enter Tryd.func55, Tryd.ntmps55
    go_wp2_with fail
    go_ret
    have h3 := H.out.setFuel (k - 1) (by have := HK.out; have := H0.out; omega)
    rw [show (k - 1).toNat = s.fuel - 1 by have := HK.out; have := H0.out; omega] at h3
    unfold Zan
    exact ⟨M, A, rfl, h3, H.out.ext _ _ _, List.prefix_refl _⟩
set_option maxRecDepth 100000 in
theorem enter_no (T : Nat → Prop) (b : Nat) (P M : Nat → Prop) (A : List (Nat × Nat)) (s : RS) (W : World) (h : WAt W b P M A s) (h40 : s.calls = 40) :
    Calls Tryd.prog 53 #[.pointer (some ⟨b, 0, none⟩)] W fun e w => e = .returned (.bool false) ∧ WEnd w b P M 5 s.out ∧ Ext T M M W w := by
  obtain ⟨av, iv, k, ov, hb, -⟩ := h.blk
  rw [h40] at hb
  have c3 : W.cell? ⟨b, 3, none⟩ = some (.int .i64 40) := hb.cell rfl
  have H := Lib.hid h
  clear hb h h40
  go_enter Tryd.func53, Tryd.ntmps53
  go_wp2_with fail
  go_at_call 74
  refine (ends_any 5 (by decide) b P M A s W H.out).mono ?_
  rintro e w ⟨rfl, h1, h2⟩
  go_wp2_with fail
  go_ret
  exact ⟨rfl, h1, h2 T⟩
set_option maxRecDepth 100000 in
theorem enter_yes (T : Nat → Prop) (b : Nat) (P M : Nat → Prop) (A : List (Nat × Nat)) (s : RS) (W : World) (h : WAt W b P M A s) (h40 : s.calls ≠ 40) :
    Calls Tryd.prog 53 #[.pointer (some ⟨b, 0, none⟩)] W fun e w => e = .returned (.bool true) ∧ WAt w b P M A { s with calls := s.calls + 1 } ∧ Ext T M M W w := by
  obtain ⟨av, iv, k, ov, hb, -⟩ := h.blk
  have hc := h.calls
  obtain ⟨c, hce⟩ : ∃ c, c = s.calls := ⟨_, rfl⟩
  have c3 : W.cell? ⟨b, 3, none⟩ = some (.int .i64 s.calls) := hb.cell rfl
  have f3 : W.frozen? ⟨b, 3, none⟩ = false := hb.free 3
  rw [← hce] at c3 hc h40
  have hlt : ¬ (40 : Int) ≤ (c : Int) := by omega
  have H := Lib.hid h
  have HC := Lib.hid hce
  have hw : IntKind.i64.wrap ((c : Int) + 1) = ((c + 1 : Nat) : Int) := by rw [IntWalk.i64_in _ (by omega)]; omega
  have HL := Lib.hid (show c + 1 ≤ 40 by omega)
  clear hb h hce hc h40
  go_enter Tryd.func53, Tryd.ntmps53
  go_wp2_with fail
  go_ret
  have h3 := H.out.setCalls (c + 1) HL.out
  rw [HC.out] at h3 ⊢
  rw [show ((s.calls + 1 : Nat) : Int) = (s.calls : Int) + 1 by omega] at h3
  exact ⟨rfl, h3, H.out.ext _ _ _⟩
set_option maxRecDepth 100000 in
theorem in_any (n lo hi : Int) (W : World) :
    Calls Tryd.prog 30 #[.int .i64 n, .int .i64 lo, .int .i64 hi] W fun e w => e = .returned (.bool (decide (lo ≤ n ∧ n ≤ hi))) ∧ W = w := by
  by_cases h1 : lo ≤ n <;> by_cases h2 : n ≤ hi
  all_goals
    first
      | rw [show decide (lo ≤ n ∧ n ≤ hi) = true from decide_eq_true ⟨h1, h2⟩]
      | rw [show decide (lo ≤ n ∧ n ≤ hi) = false from decide_eq_false (fun k => h1 k.1)]
      | rw [show decide (lo ≤ n ∧ n ≤ hi) = false from decide_eq_false (fun k => h2 k.2)]
    first | (have d1 : decide (lo ≤ n) = true := decide_eq_true h1) | (have d1 : decide (lo ≤ n) = false := decide_eq_false h1)
    first | (have d2 : decide (n ≤ hi) = true := decide_eq_true h2) | (have d2 : decide (n ≤ hi) = false := decide_eq_false h2)
    go_enter Tryd.func30, Tryd.ntmps30
    go_wp2_with fail
    go_ret
    exact ⟨rfl, rfl⟩
theorem WAt.taken {W : World} {b : Nat} {P M : Nat → Prop} {A : List (Nat × Nat)} {s : RS} (h : WAt W b P M A s) (r : List Int) (iv : Value) (hi : MidP.InAt W (fun k => ¬ P k) iv r) : WAt (W.setCell ⟨b, 1, none⟩ iv) b P M A { s with inp := r } :=
  h.own (mods_put _ _ _ _) rfl rfl h.calls (fun av iv' k ov h1 h2 h3 => ⟨iv, k, h1.set 1 _, h2, hi⟩)
set_option maxRecDepth 100000 in
theorem input_none (b : Nat) (P M : Nat → Prop) (A : List (Nat × Nat)) (s : RS) (W : World) (h : WAt W b P M A s) (hin : s.inp = []) :
    Calls Tryd.prog 78 #[.pointer (some ⟨b, 0, none⟩)] W fun e w => e = .returned (.int .i64 0) ∧ W = w := by
  obtain ⟨av, iv, k, ov, hb, -, ⟨ia, il, ic, rfl, hn, hc, hmax, hcell⟩, -⟩ := h.blk
  rw [hin] at hn
  simp only [List.length_nil] at hn
  subst hn
  have c1 : W.cell? ⟨b, 1, none⟩ = some (.slice ia 0 ic) := hb.cell rfl
  clear hb h hin hcell hc hmax
  go_enter Tryd.func78, Tryd.ntmps78
  go_wp2_with fail
  go_ret
  exact ⟨rfl, rfl⟩
set_option maxRecDepth 100000 in
theorem input_some (T : Nat → Prop) (b : Nat) (P M : Nat → Prop) (A : List (Nat × Nat)) (s : RS) (x : Int) (t : List Int) (W : World) (h : WAt W b P M A s) (hin : s.inp = x :: t) :
    Calls Tryd.prog 78 #[.pointer (some ⟨b, 0, none⟩)] W fun e w => e = .returned (.int .i64 x) ∧ WAt w b P M A { s with inp := t } ∧ Ext T M M W w := by
  obtain ⟨av, iv, k, ov, hb, -, ⟨ia, il, ic, rfl, hn, hc, hmax, hcell⟩, -⟩ := h.blk
  rw [hin] at hn hcell
  obtain ⟨gi, oi, rfl, hgi, hci⟩ := hcell 0 x rfl
  have hgi : P gi := Classical.not_not.1 hgi
  simp only [List.length_cons] at hn
  obtain ⟨m, hm⟩ : ∃ m, m = t.length := ⟨_, rfl⟩
  rw [← hm] at hn
  subst hn
  have c1 : W.cell? ⟨b, 1, none⟩ = some (.slice (some ⟨gi, oi, none⟩) (m + 1) ic) := hb.cell rfl
  have f1 : W.frozen? ⟨b, 1, none⟩ = false := hb.free 1
  have HI : Hid (MidP.InAt W (fun k => ¬ P k) (.slice (some ⟨gi, oi + 1, none⟩) m (ic - 1)) t) := Lib.hid ⟨_, _, _, rfl, hm, by omega, by omega, fun i x hx => by
    obtain ⟨g2, o2, e1, e2, e3⟩ := hcell (i + 1) x hx
    simp only [Option.some.injEq, Addr.mk.injEq, and_true] at e1
    obtain ⟨rfl, rfl⟩ := e1
    exact ⟨_, _, rfl, e2, by have : oi + 1 + i = oi + (i + 1) := by omega
                             rw [this]; exact e3⟩⟩
  have hs1 : (0 : Int) < (m : Int) + 1 := by omega
  have hs2 : (((m + 1 : Nat) : Int) == 0) = false := by simp; omega
  have hs3 : ((m : Int) + 1 == 0) = false := by simp; omega
  simp only [Nat.add_zero] at hci
  have H := Lib.hid h
  have HT := Lib.hid hm
  have HC := Lib.hid (And.intro hc hmax)
  clear hb h hin hcell hm
  go_enter Tryd.func78, Tryd.ntmps78
  go_wp2_with fail
  all_goals
    try go_ret
  all_goals
    first
    | exact ⟨rfl, H.out.taken t _ HI.out, H.out.ext _ _ _⟩
    | (refine ⟨rfl, H.out.taken t (.slice (some ⟨gi, oi, none⟩) m 0) ?_, H.out.ext _ _ _⟩
       have h1 := HC.out.1
       have h2 := HT.out
       obtain rfl : m = 0 := by omega
       obtain rfl : t = [] := List.eq_nil_of_length_eq_zero h2.symm
       exact ⟨_, _, _, rfl, rfl, Nat.le_refl _, Nat.zero_le _, fun i x hx => by simp at hx⟩)
theorem infoI : (Tryd.prog.info? 2).map (fun i => (i.zero, i.size, i.bytes)) = some (some (.int .i64 0), 1, 8) := by kernel_rfl
/-- A number is told. -/
theorem WAt.told {w6 w7 : World} {b : Nat} {P M : Nat → Prop} {A : List (Nat × Nat)} {s : RS} (h : WAt w6 b P M A s) {ov v' : Value} (hov : w6.cell? ⟨b, 6, none⟩ = some ov) (x : Int) (hn : s.out.length < 200) (hown : w7.ownsRow 0 2 1 v' (s.out.length + 1) (s.out.map (Value.int .i64) ++ [.int .i64 x])) (hg : Grew w6 w7 ov v') :
    WAt (w7.setCell ⟨b, 6, none⟩ v') b P (fun k => M k ∨ v'.ownBlock = some k) A { s with out := s.out ++ [x] } ∧ Ext None M (fun k => M k ∨ v'.ownBlock = some k) w6 (w7.setCell ⟨b, 6, none⟩ v') := by
  obtain ⟨av, iv, k0, ov2, h1, h2, h3, h4, h5, h6, h7, h8⟩ := h.blk
  obtain rfl : ov2 = ov := by
    have := h1.cell (i := 6) (v := ov2) rfl
    rw [hov] at this
    exact (Option.some.inj this).symm
  have hm7 : Mods (fun k => ov2.ownBlock = some k) w6 w7 := hg.mods
  have hm8 : Mods (· = b) w7 (w7.setCell ⟨b, 6, none⟩ v') := mods_put _ _ _ _
  have hb6 : b < w6.heap.size := h.old b h.has
  have hm68 : Mods (fun k => ov2.ownBlock = some k ∨ k = b) w6 (w7.setCell ⟨b, 6, none⟩ v') := (hm7.mono fun _ _ hk => Or.inl hk).trans (hm8.mono fun _ _ hk => Or.inr hk)
  have hMP : ∀ k, (ov2.ownBlock = some k ∨ k = b) → M k := fun k hk => hk.elim (fun e => (h5 k e).1) (fun e => by rw [e]; exact h.has)
  have hm68P : Mods (fun k => ¬ P k) w6 (w7.setCell ⟨b, 6, none⟩ v') := hm68.mono fun k _ hk => h.off k (hMP k hk)
  have hloc : ∀ k, v'.ownBlock = some k → ov2.ownBlock = some k ∨ k = w6.heap.size := fun k hk => by
    rcases hg.loc with e | e
    · exact Or.inl (by rw [← e]; exact hk)
    · rw [e] at hk
      exact Or.inr (Option.some.inj hk).symm
  have hne : ∀ k, v'.ownBlock = some k → k ≠ b := fun k hk => by
    rcases hloc k hk with e | e
    · exact (h5 k e).2.1
    · omega
  have hAk : ∀ k, v'.ownBlock = some k → ∀ g n, (g, n) ∈ A → g ≠ k := fun k hk g m hgm => by
    rcases hloc k hk with e | e
    · exact (h5 k e).2.2 g m hgm
    · have := h.old g (h.mine g m hgm).1
      omega
  have hb7 : Blk w7 b [av, iv, .int .i64 k0, .int .i64 s.calls, .int .i64 0, .int .i64 0, ov2] 86 := h1.mods hm7 (fun e => (h5 b e).2.1 rfl)
  refine ⟨⟨⟨av, iv, k0, v', hb7.set 6 v', h2, h3.mods hm68P (fun _ _ k => k), ?_, fun k hk => ⟨Or.inr hk, hne k hk, hAk k hk⟩, ?_, fun k hk => ⟨Or.inl (h7 k hk).1, (h7 k hk).2⟩, ?_⟩, Or.inl h.has, h.arrs, ?_, fun g m hgm => ⟨Or.inl (h.mine g m hgm).1, (h.mine g m hgm).2⟩, h.apart, ?_, ?_, fun k hk => Nat.lt_of_lt_of_le (h.given k hk) hm68.size, ?_, h.calls⟩, ?_⟩
  · have := hm8.ownsRow hown (fun k hk => hne k hk)
    simpa using this
  · exact hm68.ownsRow h6 (fun k hk f => f.elim (h8 k hk) (fun e => (h7 k hk).2.1 e))
  · intro k hk e
    rcases hloc k e with e | e
    · exact h8 k hk e
    · have := h.old k (h7 k hk).1
      omega
  · intro i l hl
    obtain ⟨g, e1, e2, e3⟩ := h.arr i l hl
    refine ⟨g, e1, e2.mods hm68 ?_, e3⟩
    rintro (e | e)
    · exact (h5 g e).2.2 g _ (List.mem_of_getElem? e1) rfl
    · exact (h.mine g _ (List.mem_of_getElem? e1)).2 e
  · intro k hk
    have hsz : (w7.setCell ⟨b, 6, none⟩ v').heap.size = w7.heap.size := by simp [World.setCell]
    rw [hsz]
    rcases hk with hk | hk
    · exact Nat.lt_of_lt_of_le (h.old k hk) hm7.size
    · exact (hown.lt k hk).2
  · rintro k (hk | hk) hp
    · exact h.off k hk hp
    · rcases hloc k hk with e | e
      · exact h.off k (h5 k e).1 hp
      · have := h.given k hp
        omega
  · simp only [List.length_append, List.length_singleton]
    omega
  · refine ⟨hm68.mono fun k _ hk => Or.inr (hMP k hk), fun k hk hm => ?_⟩
    rcases hm with hm | hm
    · exact hm
    · rcases hloc k hm with e | e
      · exact (h5 k e).1
      · omega
theorem WAt.outAt {w6 w7 : World} {b : Nat} {P M : Nat → Prop} {A : List (Nat × Nat)} {s : RS} (h : WAt w6 b P M A s) {ov v' : Value} (hov : w6.cell? ⟨b, 6, none⟩ = some ov) (hg : Grew w6 w7 ov v') : w7.cell? ⟨b, 6, none⟩ = some ov ∧ w7.frozen? ⟨b, 6, none⟩ = false := by
  obtain ⟨av, iv, k0, ov2, h1, h2, h3, h4, h5, h6, h7, h8⟩ := h.blk
  obtain rfl : ov2 = ov := by
    have := h1.cell (i := 6) (v := ov2) rfl
    rw [hov] at this
    exact (Option.some.inj this).symm
  have hb7 : Blk w7 b [av, iv, .int .i64 k0, .int .i64 s.calls, .int .i64 0, .int .i64 0, ov2] 86 := h1.mods hg.mods (fun e => (h5 b e).2.1 rfl)
  exact ⟨hb7.cell rfl, hb7.free 6⟩
set_option maxRecDepth 100000 in
theorem print_any (T : Nat → Prop) (b : Nat) (P M : Nat → Prop) (A : List (Nat × Nat)) (s : RS) (x : Int) (W : World) (h : WAt W b P M A s) :
    Calls Tryd.prog 77 #[.pointer (some ⟨b, 0, none⟩), .int .i64 x] W (Zan W b P T M A (fun (_ : Unit) _ e => e = .returned (.tuple #[])) (fun e => e = .returned (.tuple #[])) (if s.out.length ≥ 200 then (.error (.stop 7), s) else (.ok (), { s with out := s.out ++ [x] }))) := by
  obtain ⟨i0, hi, hz0, hz1, hz2⟩ := info_parts infoI
  have HI := Lib.hid (And.intro hi (And.intro hz0 (And.intro hz1 hz2)))
  obtain ⟨av, iv, k, ov, hb, -, -, hown, -⟩ := h.blk
  obtain ⟨oa, oc, rfl⟩ := sl_form hown
  have c6 : W.cell? ⟨b, 6, none⟩ = some (.slice oa s.out.length oc) := hb.cell rfl
  have f6 := hb.free 6
  have hbl := h.old b h.has
  have H := Lib.hid h
  obtain ⟨on, hon⟩ : ∃ on, on = s.out.length := ⟨_, rfl⟩
  have HON := Lib.hid hon
  rw [← hon] at c6 hown
  have HOWN := Lib.hid hown
  clear hb hown h hi hz0 hz1 hz2
  by_cases hz : on ≥ 200
  · rw [if_pos (by rw [← hon]; exact hz)]
    have hz1 : (200 : Int) ≤ (on : Int) := by omega
    clear hz hon
    go_enter Tryd.func77, Tryd.ntmps77
    go_wp2_with fail
    go_at_call 74
    refine (ends_any 7 (by decide) b P M A s W H.out).mono ?_
    rintro e w ⟨rfl, h1, h2⟩
    go_wp2
    go_end0
    unfold Zan
    exact ⟨rfl, M, h1, h2 T⟩
  · rw [if_neg (by rw [← hon]; exact hz)]
    have hz1 : ¬ (200 : Int) ≤ (on : Int) := by omega
    have HZ := Lib.hid hz
    have HOA := Lib.hid (HOWN.out.alloc (.cells #[.int .i64 x] 2))
    have HMA : Hid (Mods None W (W.alloc (.cells #[.int .i64 x] 2))) := Lib.hid ((Mods.refl _ _).alloc _)
    have hbn : b ≠ W.heap.size := by omega
    have HCA := Lib.hid (HMA.out.cellOf c6 (fun f => f))
    clear hz hon
    go_enter Tryd.func77, Tryd.ntmps77
    go_wp2_with (at_builtin; refine wpList_append_own_at _ rfl _ _ 23 rfl 0 2 i0 _ 1 8 Tryd.underlying23 HI.out.1 HI.out.2.1 HI.out.2.2.1 HI.out.2.2.2 rfl (by decide) (.slice oa on oc) on (s.out.map (Value.int .i64)) rfl HOA.out ⟨W.heap.size, 0, none⟩ 1 1 [.int .i64 x] rfl rfl (cell_one_new _ _ _) (ints_oneCell .i64 [x]) (by have := HZ.out; unfold maxLen; omega) (by have := HZ.out; omega) (Nat.zero_le _) ?_; intro v' w7 hown hgrow hnil hloc; have HOW := Lib.hid hown; have HGR := Lib.hid (grew_of hgrow hloc); clear hown hgrow hnil hloc; refine Hid.out ?_)
    refine Lib.hid ?_
    obtain ⟨qa, qc, rfl⟩ := sl_form HOW.out
    have hsz : s.out.length < 200 := by have h1 := HZ.out; have h2 := HON.out; omega
    obtain ⟨hR8, hE8⟩ := (H.out.quiet HMA.out).told HCA.out x hsz (by rw [← HON.out]; exact HOW.out) HGR.out
    have HR8 := Lib.hid hR8
    have HE8 := Lib.hid ((Ext.quiet (T := None) HMA.out).trans hE8)
    obtain ⟨c74, z74⟩ := (H.out.quiet HMA.out).outAt HCA.out HGR.out
    clear hR8 hE8 hsz c6 f6 hbn
    go_wp2_with fail
    go_end0
    unfold Zan
    exact ⟨_, A, rfl, HR8.out, HE8.out.more (fun _ _ f => f.elim), List.prefix_refl _⟩
theorem row_pt {W : World} {B : Nat} {e : TypeId} {size n : Nat} {x : Value} {vs : List Value} (h : W.ownsRow B e size x n vs) (h0 : 0 < n) :
    ∃ q c, x = .slice (some ⟨q, 0, none⟩) n c ∧ n ≤ c ∧ c ≤ 9223372036854775807 ∧ ∀ j u, vs[j]? = some u → W.cell? ⟨q, j, none⟩ = some u := by
  rcases h.2 with ⟨hv, hz⟩ | ⟨g2, cap2, cur2, hv, _, _, h3, h4, _⟩
  · omega
  · refine ⟨g2, cap2, hv, h3, by unfold maxLen at h4; omega, fun j c hj => ?_⟩
    rw [hv] at h
    have := h.cells (g := g2) rfl j c hj
    cases j with
    | zero => exact this
    | succ j => simpa [Addr.add] using this
/-- Where an array lies, by its number. -/
theorem WAt.place {W : World} {b : Nat} {P M : Nat → Prop} {A : List (Nat × Nat)} {s : RS} (h : WAt W b P M A s) {i : Nat} {l : List Int} (hl : s.arrs[i]? = some l) :
    ∃ q c g, W.cell? ⟨b, 0, none⟩ = some (.slice (some ⟨q, 0, none⟩) (A.length + 1) c) ∧ A.length + 1 ≤ c ∧ c ≤ 9223372036854775807 ∧ i < A.length ∧ W.cell? ⟨q, i + 1, none⟩ = some (.slice (some ⟨g, 0, none⟩) l.length l.length) ∧ A[i]? = some (g, l.length) ∧ Blk W g (l.map (.int .i64)) 2 ∧ l.length ≤ 40 := by
  obtain ⟨av, iv, k, ov, hb, -, -, -, -, h6, -⟩ := h.blk
  obtain ⟨q, c, rfl, h1, h2, h3⟩ := row_pt h6 (by omega)
  obtain ⟨g, e1, e2, e3⟩ := h.arr i l hl
  have hi : i < A.length := (List.getElem?_eq_some_iff.1 e1).1
  refine ⟨q, c, g, hb.cell rfl, h1, h2, hi, ?_, e1, e2, e3⟩
  have := h3 (i + 1) (arrV (g, l.length)) (by rw [List.getElem?_cons_succ, List.getElem?_map, e1]; rfl)
  exact this
set_option maxRecDepth 100000 in
theorem item_out (T : Nat → Prop) (b : Nat) (P M : Nat → Prop) (A : List (Nat × Nat)) (s : RS) (i j : Nat) (l : List Int) (n : Int) (W : World) (h : WAt W b P M A s) (hl : s.arrs[i]? = some l) (hj : j = i + 1) (hn : n < 0 ∨ n ≥ l.length) :
    Calls Tryd.prog 76 #[.pointer (some ⟨b, 0, none⟩), .int .i64 j, .int .i64 n] W fun e w => e = .returned (.pointer none) ∧ WEnd w b P M 3 s.out ∧ Ext T M M W w := by
  obtain ⟨q, c, g, c0, h1, h2, h3, h4, -, -, h40⟩ := h.place hl
  obtain ⟨m, hm⟩ : ∃ m, m = A.length + 1 := ⟨_, rfl⟩
  obtain ⟨ln, hln⟩ : ∃ ln, ln = l.length := ⟨_, rfl⟩
  rw [← hm] at c0 h1
  rw [← hj] at h4
  rw [← hln] at h4 h40 hn
  have hjm : (j : Int) < (m : Int) := by omega
  have hj0 : (0 : Int) ≤ (j : Int) := by omega
  have hw : IntKind.i64.wrap ((ln : Int) - 1) = (ln : Int) - 1 := IntWalk.i64_in _ (by omega)
  have HD : Hid (decide (0 ≤ n ∧ n ≤ (ln : Int) - 1) = false) := Lib.hid (decide_eq_false (by omega))
  have H := Lib.hid h
  clear h hl hj hn hm hln h3 h40
  go_enter Tryd.func76, Tryd.ntmps76
  go_wp2_with fail
  go_at_call 30
  refine (in_any _ _ _ _).mono ?_
  rintro e w ⟨rfl, rfl⟩
  rw [HD.out]
  go_wp2_with fail
  go_at_call 74
  refine (ends_any 3 (by decide) b P M A s W H.out).mono ?_
  rintro e w ⟨rfl, k1, k2⟩
  go_wp2
  go_ret
  exact ⟨rfl, k1, k2 T⟩
set_option maxRecDepth 100000 in
theorem item_in (b : Nat) (P M : Nat → Prop) (A : List (Nat × Nat)) (s : RS) (i j : Nat) (l : List Int) (n : Int) (W : World) (h : WAt W b P M A s) (hl : s.arrs[i]? = some l) (hj : j = i + 1) (hn : 0 ≤ n ∧ n < l.length) :
    Calls Tryd.prog 76 #[.pointer (some ⟨b, 0, none⟩), .int .i64 j, .int .i64 n] W fun e w => (∃ g, A[i]? = some (g, l.length) ∧ e = .returned (.pointer (some ⟨g, n.toNat, none⟩))) ∧ W = w := by
  obtain ⟨q, c, g, c0, h1, h2, h3, h4, h5, -, h40⟩ := h.place hl
  obtain ⟨m, hm⟩ : ∃ m, m = A.length + 1 := ⟨_, rfl⟩
  obtain ⟨ln, hln⟩ : ∃ ln, ln = l.length := ⟨_, rfl⟩
  rw [← hm] at c0 h1
  rw [← hj] at h4
  have HA := Lib.hid h5
  rw [← hln] at h4 h40 hn
  have hjm : (j : Int) < (m : Int) := by omega
  have hj0 : (0 : Int) ≤ (j : Int) := by omega
  have hw : IntKind.i64.wrap ((ln : Int) - 1) = (ln : Int) - 1 := IntWalk.i64_in _ (by omega)
  have HD : Hid (decide (0 ≤ n ∧ n ≤ (ln : Int) - 1) = true) := Lib.hid (decide_eq_true (by omega))
  obtain ⟨hn0, hn1⟩ := hn
  clear h hl hj hm hln h3 h5
  go_enter Tryd.func76, Tryd.ntmps76
  go_wp2_with fail
  go_at_call 30
  refine (in_any _ _ _ _).mono ?_
  rintro e w ⟨rfl, rfl⟩
  rw [HD.out]
  go_wp2_with fail
  go_ret
  exact ⟨⟨g, HA.out, by simp⟩, rfl⟩
/-- An array is made. -/
theorem WAt.made {W w6 w7 : World} {b : Nat} {P M : Nat → Prop} {A : List (Nat × Nat)} {s : RS} (h : WAt W b P M A s) (hm6 : Mods None W w6) (n : Nat) (hn : n ≤ 40) (hsz : W.heap.size < w6.heap.size)
    (hB : Blk w6 W.heap.size ((List.replicate n (0 : Int)).map (Value.int .i64)) 2) {av v' : Value} (hav : W.cell? ⟨b, 0, none⟩ = some av)
    (hown : w7.ownsRow 0 23 1 v' (A.length + 1 + 1) ((.slice none 0 0 :: A.map arrV) ++ [arrV (W.heap.size, n)])) (hg : Grew w6 w7 av v') :
    WAt (w7.setCell ⟨b, 0, none⟩ v') b P (fun k => M k ∨ k = W.heap.size ∨ v'.ownBlock = some k) (A ++ [(W.heap.size, n)]) { s with arrs := s.arrs ++ [List.replicate n 0] } ∧ Ext None M (fun k => M k ∨ k = W.heap.size ∨ v'.ownBlock = some k) W (w7.setCell ⟨b, 0, none⟩ v') := by
  obtain ⟨av2, iv, k0, ov, h1, h2, h3, h4, h5, h6, h7, h8⟩ := h.blk
  obtain rfl : av2 = av := by
    have := h1.cell (i := 0) (v := av2) rfl
    rw [hav] at this
    exact (Option.some.inj this).symm
  have hbs := h.old b h.has
  have hm7 : Mods (fun k => av2.ownBlock = some k) w6 w7 := hg.mods
  have hm8 : Mods (· = b) w7 (w7.setCell ⟨b, 0, none⟩ v') := mods_put _ _ _ _
  have hm : Mods (fun k => av2.ownBlock = some k ∨ k = b) W (w7.setCell ⟨b, 0, none⟩ v') := ((hm6.mono fun _ _ f => f.elim).trans (hm7.mono fun _ _ hk => Or.inl hk)).trans (hm8.mono fun _ _ hk => Or.inr hk)
  have hMP : ∀ k, (av2.ownBlock = some k ∨ k = b) → M k := fun k hk => hk.elim (fun e => (h7 k e).1) (fun e => by rw [e]; exact h.has)
  have hmP : Mods (fun k => ¬ P k) W (w7.setCell ⟨b, 0, none⟩ v') := hm.mono fun k _ hk => h.off k (hMP k hk)
  have hloc : ∀ k, v'.ownBlock = some k → av2.ownBlock = some k ∨ k = w6.heap.size := fun k hk => by
    rcases hg.loc with e | e
    · exact Or.inl (by rw [← e]; exact hk)
    · rw [e] at hk
      exact Or.inr (Option.some.inj hk).symm
  have hne : ∀ k, v'.ownBlock = some k → k ≠ b := fun k hk => by
    rcases hloc k hk with e | e
    · exact (h7 k e).2.1
    · omega
  have hB8 : Blk (w7.setCell ⟨b, 0, none⟩ v') W.heap.size ((List.replicate n (0 : Int)).map (Value.int .i64)) 2 :=
    (hB.mods hm7 (fun e => by have := h.old _ (h7 _ e).1; omega)).mods hm8 (fun e => by omega)
  have hs7 : w6.heap.size ≤ w7.heap.size := hm7.size
  have hs8 : (w7.setCell ⟨b, 0, none⟩ v').heap.size = w7.heap.size := by simp [World.setCell]
  refine ⟨⟨⟨v', iv, k0, ov, ?_, h2, h3.mods hmP (fun _ _ k => k), ?_, ?_, ?_, ?_, ?_⟩, Or.inl h.has, ?_, ?_, ?_, ?_, ?_, ?_, fun k hk => Nat.lt_of_lt_of_le (h.given k hk) hm.size, h.few, h.calls⟩, ?_⟩
  · exact (((h1.mods hm6 (fun f => f)).mods hm7 (fun e => (h7 b e).2.1 rfl)).set 0 v')
  · exact hm.ownsRow h4 (fun k hk f => f.elim (fun e => h8 k e hk) (fun e => (h5 k hk).2.1 e))
  · intro k hk
    refine ⟨Or.inl (h5 k hk).1, (h5 k hk).2.1, fun g m hgm => ?_⟩
    rcases List.mem_append.1 hgm with hgm | hgm
    · exact (h5 k hk).2.2 g m hgm
    · simp only [List.mem_singleton, Prod.mk.injEq] at hgm
      have := h.old k (h5 k hk).1
      omega
  · have := hm8.ownsRow hown (fun k hk => hne k hk)
    simpa using this
  · intro k hk
    refine ⟨Or.inr (Or.inr hk), hne k hk, fun g m hgm => ?_⟩
    rcases List.mem_append.1 hgm with hgm | hgm
    · rcases hloc k hk with e | e
      · exact (h7 k e).2.2 g m hgm
      · have := h.old g (h.mine g m hgm).1
        omega
    · simp only [List.mem_singleton, Prod.mk.injEq] at hgm
      rcases hloc k hk with e | e
      · have := h.old k (h7 k e).1
        omega
      · omega
  · intro k hk e
    rcases hloc k hk with f | f
    · exact h8 k f e
    · have := h.old k (h5 k e).1
      omega
  · simp [h.arrs]
  · intro i l hl
    rcases Nat.lt_or_ge i s.arrs.length with hi | hi
    · have hl2 : s.arrs[i]? = some l := by simpa [List.getElem?_append_left hi] using hl
      obtain ⟨g, e1, e2, e3⟩ := h.arr i l hl2
      refine ⟨g, by rw [List.getElem?_append_left (by rw [h.arrs]; exact hi)]; exact e1, e2.mods hm ?_, e3⟩
      rintro (e | e)
      · exact (h7 g e).2.2 g _ (List.mem_of_getElem? e1) rfl
      · exact (h.mine g _ (List.mem_of_getElem? e1)).2 e
    · simp only [List.getElem?_append_right hi] at hl
      obtain ⟨hi2, hl⟩ := List.getElem?_eq_some_iff.1 hl
      simp only [List.length_singleton] at hi2
      obtain rfl : i = s.arrs.length := by omega
      simp only [Nat.sub_self, List.getElem_cons_zero] at hl
      subst hl
      refine ⟨W.heap.size, ?_, hB8, by simpa using hn⟩
      rw [List.getElem?_append_right (by rw [h.arrs]; exact Nat.le_refl _)]
      simp [h.arrs]
  · intro g m hgm
    rcases List.mem_append.1 hgm with hgm | hgm
    · exact ⟨Or.inl (h.mine g m hgm).1, (h.mine g m hgm).2⟩
    · simp only [List.mem_singleton, Prod.mk.injEq] at hgm
      exact ⟨Or.inr (Or.inl hgm.1), by omega⟩
  · refine List.pairwise_append.2 ⟨h.apart, List.pairwise_singleton _ _, ?_⟩
    intro x hx y hy
    simp only [List.mem_singleton] at hy
    subst hy
    have := h.old x.1 (h.mine x.1 x.2 hx).1
    show x.1 ≠ W.heap.size
    omega
  · intro k hk
    rw [hs8]
    rcases hk with hk | hk | hk
    · have := h.old k hk
      omega
    · omega
    · exact (hown.lt k hk).2
  · rintro k (hk | hk | hk) hp
    · exact h.off k hk hp
    · have := h.given k hp
      omega
    · rcases hloc k hk with e | e
      · exact h.off k (h7 k e).1 hp
      · have := h.given k hp
        omega
  · refine ⟨hm.mono fun k _ hk => Or.inr (hMP k hk), fun k hk hm => ?_⟩
    rcases hm with hm | hm | hm
    · exact hm
    · omega
    · rcases hloc k hm with e | e
      · exact (h7 k e).1
      · omega
theorem WAt.arrsAt {W w6 w7 : World} {b : Nat} {P M : Nat → Prop} {A : List (Nat × Nat)} {s : RS} (h : WAt W b P M A s) (hm6 : Mods None W w6) {av v' : Value} (hav : W.cell? ⟨b, 0, none⟩ = some av) (hg : Grew w6 w7 av v') : w7.cell? ⟨b, 0, none⟩ = some av ∧ w7.frozen? ⟨b, 0, none⟩ = false := by
  obtain ⟨av2, iv, k0, ov2, h1, h2, h3, h4, h5, h6, h7, h8⟩ := h.blk
  obtain rfl : av2 = av := by
    have := h1.cell (i := 0) (v := av2) rfl
    rw [hav] at this
    exact (Option.some.inj this).symm
  have hb7 := (h1.mods hm6 (fun f => f)).mods hg.mods (fun e => (h7 b e).2.1 rfl)
  exact ⟨hb7.cell rfl, hb7.free 0⟩
theorem run_make_row1 {P : Program} (t e : TypeId) (i : TypeInfo) (z : Value) (ht : P.underlying t = some (.slice e)) (hi : P.info? e = some i) (hz : i.zero = some z)
    (kl kc : IntKind) (n : Nat) (hbytes : i.bytes * n ≤ 281474976710656) (h63 : n ≤ 9223372036854775807) (w : World) :
    (Instr.makeSlice t (.int kl (n : Int)) (.int kc (n : Int))).run P w = .ok (.slice (some ⟨w.heap.size, 0, none⟩) n n) (w.alloc (.cells (madeCells z.cells (n * i.size)) e)) := by
  have hb : (i.bytes : Int) * (n : Int) ≤ 281474976710656 := by
    have h : ((i.bytes * n : Nat) : Int) ≤ 281474976710656 := by omega
    rwa [Int.natCast_mul] at h
  have hr := run_make (P := P) w t e i z ht hi hz kl kc n n (by omega) (by omega) hb (by omega)
  simp only [Int.toNat_natCast] at hr
  exact hr
theorem made_row (n : Nat) : madeCells (Value.int .i64 0).cells (n * 1) = ((List.replicate n (0 : Int)).map (Value.int .i64)).toArray := by
  apply Array.ext
  · simp [madeCells]
  · intro i h1 h2
    simp [madeCells, Value.cells, Nat.mod_one]
theorem infoS : (Tryd.prog.info? 23).map (fun i => (i.zero, i.size, i.bytes)) = some (some (.slice none 0 0), 1, 24) := by kernel_rfl
theorem one_two (W : World) (o : Obj) (v : Value) (e : TypeId) : ∀ j u, [v][j]? = some u → ((W.alloc o).alloc (.cells #[v] e)).drew.cell? ((⟨W.heap.size + 1, 0, none⟩ : Addr).add j) = some u := by
  have h := one_new (W.alloc o) v e
  rw [show (W.alloc o).heap.size = W.heap.size + 1 by simp] at h
  exact h
set_option maxRecDepth 100000 in
theorem make_no (T : Nat → Prop) (b : Nat) (P M : Nat → Prop) (A : List (Nat × Nat)) (s : RS) (n : Int) (W : World) (h : WAt W b P M A s) (hn : n < 0 ∨ n > 40) :
    Calls Tryd.prog 75 #[.pointer (some ⟨b, 0, none⟩), .int .i64 n] W fun e w => e = .returned (.int .i64 0) ∧ WEnd w b P M 4 s.out ∧ Ext T M M W w := by
  have HD : Hid (decide (0 ≤ n ∧ n ≤ 40) = false) := Lib.hid (decide_eq_false (by omega))
  have H := Lib.hid h
  clear h hn
  go_enter Tryd.func75, Tryd.ntmps75
  go_wp2_with fail
  go_at_call 30
  refine (in_any _ _ _ _).mono ?_
  rintro e w ⟨rfl, rfl⟩
  rw [HD.out]
  go_wp2_with fail
  go_at_call 74
  refine (ends_any 4 (by decide) b P M A s W H.out).mono ?_
  rintro e w ⟨rfl, k1, k2⟩
  go_wp2
  go_ret
  exact ⟨rfl, k1, k2 T⟩
set_option maxRecDepth 100000 in
set_option maxHeartbeats 1000000 in
theorem make_yes (T : Nat → Prop) (b : Nat) (P M : Nat → Prop) (A : List (Nat × Nat)) (s : RS) (n : Nat) (W : World) (h : WAt W b P M A s) (hn : n ≤ 40) (hA : A.length ≤ 4000000000000) :
    Calls Tryd.prog 75 #[.pointer (some ⟨b, 0, none⟩), .int .i64 n] W fun e w => e = .returned (.int .i64 ((s.arrs.length : Int) + 1)) ∧ ∃ M' A', WAt w b P M' A' { s with arrs := s.arrs ++ [List.replicate n 0] } ∧ Ext T M M' W w ∧ A <+: A' := by
  have HD : Hid (decide (0 ≤ (n : Int) ∧ (n : Int) ≤ 40) = true) := Lib.hid (decide_eq_true (by omega))
  obtain ⟨i0, hi, hz0, hz1, hz2⟩ := info_parts infoS
  have HI := Lib.hid (And.intro hi (And.intro hz0 (And.intro hz1 hz2)))
  obtain ⟨i1, hi1, hy0, hy1, hy2⟩ := info_parts infoI
  have hmk : ∀ (w : World), (Instr.makeSlice 23 (.int .i64 (n : Int)) (.int .i64 (n : Int))).run Tryd.prog w = .ok (.slice (some ⟨w.heap.size, 0, none⟩) n n) (w.alloc (.cells ((List.replicate n (0 : Int)).map (Value.int .i64)).toArray 2)) := fun w => by
    have h := run_make_row1 (P := Tryd.prog) 23 2 i1 (.int .i64 0) Tryd.underlying23 hi1 hy0 .i64 .i64 n (by rw [hy2]; omega) (by omega) w
    rw [h, hy1, made_row]
  obtain ⟨av, iv, k, ov, hb, -, -, -, -, h6, -⟩ := h.blk
  obtain ⟨q, c, rfl, hc1, hc2, -⟩ := row_pt h6 (by omega)
  obtain ⟨m, hm⟩ : ∃ m, m = A.length + 1 := ⟨_, rfl⟩
  rw [← hm] at h6 hb hc1
  have c0 : W.cell? ⟨b, 0, none⟩ = some (.slice (some ⟨q, 0, none⟩) m c) := hb.cell rfl
  have f0 := hb.free 0
  have hbl := h.old b h.has
  have H := Lib.hid h
  have HO := Lib.hid h6
  have HMM := Lib.hid hm
  have HN := Lib.hid (And.intro hn hA)
  have HC0 := Lib.hid c0
  clear h hn hb h6 hi hz0 hz1 hz2 hi1 hy0 hy1 hy2 hm hA
  go_enter Tryd.func75, Tryd.ntmps75
  go_wp2_with fail
  go_at_call 30
  refine (in_any _ _ _ _).mono ?_
  rintro e w ⟨rfl, rfl⟩
  rw [HD.out]
  go_wp2_with fail
  obtain ⟨Z, hZ⟩ : ∃ Z, Z = ((List.replicate n (0 : Int)).map (Value.int .i64)).toArray := ⟨_, rfl⟩
  rw [← hZ] at hmk
  have HZZ := Lib.hid hZ
  clear hZ
  go_region_law (refine step_append_at rfl (.tmp 14) (.tmp 17) 84 rfl 0 23 i0 _ 1 24 Tryd.underlying84 HI.out.1 HI.out.2.1 HI.out.2.2.1 HI.out.2.2.2 rfl (by decide) (.slice (some ⟨q, 0, none⟩) m c) m (.slice none 0 0 :: A.map arrV) (by simp [Act.eval, Act.put]) ((HO.out.alloc _).alloc _) ⟨W.heap.size + 1, 0, none⟩ 1 1 [arrV (W.heap.size, n)] (by simp [Act.eval, Act.put]) rfl (one_two _ _ _ _) (fun u hu => by simp at hu; subst hu; rfl) (by have := HMM.out; have := HN.out.2; unfold maxLen; omega) (by have := HMM.out; have := HN.out.2; omega) (Nat.zero_le _) ?_; intro v' w7 hown hgrow hloc; have HOW := Lib.hid hown; have HGR := Lib.hid (grew_of hgrow hloc); have hm6 := Lib.hid (show Mods None W _ from (((Mods.refl _ _).alloc (.cells Z 2)).alloc (.cells #[arrV (W.heap.size, n)] 23)).drew); obtain ⟨c70, z70⟩ := H.out.arrsAt hm6.out HC0.out HGR.out; clear hown hgrow hloc; obtain ⟨qa, qc, rfl⟩ := sl_form HOW.out)
  all_goals
    have HB6 : Hid (Blk (((W.alloc (.cells Z 2)).alloc (.cells #[arrV (W.heap.size, n)] 23)).drew) W.heap.size ((List.replicate n (0 : Int)).map (Value.int .i64)) 2) := Lib.hid (by
      have := ((Blk.new W Z 2).alloc (.cells #[arrV (W.heap.size, n)] 23)).drew
      rwa [HZZ.out] at this ⊢)
    obtain ⟨k1, k2⟩ := H.out.made hm6.out n HN.out.1 (by simp; omega) HB6.out HC0.out (by rw [← HMM.out]; exact HOW.out) HGR.out
    have K1 := Lib.hid k1
    have K2 := Lib.hid k2
    have HLA := Lib.hid H.out.arrs
    clear k1 k2 hmk
    go_wp2_with fail
    go_ret
    refine ⟨congrArg (fun x => Ending.returned (.int .i64 x)) ?_, _, _, K1.out, K2.out.more (fun _ _ f => f.elim), List.prefix_append _ _⟩
    have h1 := HMM.out
    have h2 := HLA.out
    omega
end Go.Proofs.YtoajcbfejplfbaaDoor.MidP.R

/- The document's steps: each code but a call. Printed by mkrsst.py. Conditions: what it has lies. -/
import Derived.Test.YtoajcbfejplfbaaDoorRsMem
import Derived.Test.YtoajcbfejplfbaaDoorRsPl
import Derived.Test.YtoajcbfejplfbaaDoorMidSt
import Derived.Deep.RegionWith
import Derived.Deep.RegionLaw
import Derived.StillTailTactics
namespace Go.Proofs.YtoajcbfejplfbaaDoor.MidP.R
open Go.RowKit Go.Proofs.YtoajcbfejplfbaaDoor.Wo Go.Maps Go.Proofs.YtoajcbfejplfbaaDoor.TreeP Go.Proofs.YtoajcbfejplfbaaDoor.MidP
set_option linter.unusedVariables false
set_option linter.unusedSimpArgs false
/-- A value, as the document has it: a number, or an array's number. -/
def rep (v : V) : Int := match v.arr with
  | none => v.n
  | some i => (i : Int) + 1
theorem rep_num {v : V} (h : v.arr = none) : rep v = v.n := by unfold rep; rw [h]
theorem rep_arr {v : V} {i : Nat} (h : v.arr = some i) : rep v = ((i + 1 : Nat) : Int) := by unfold rep; rw [h]; simp
theorem rep_numV (n : Int) : n = rep (numV n) := rfl
/-- Places, as the document has them: numbers in a block of their own. -/
def NlAt (W : World) (P M : Nat → Prop) (g : Nat) (v : Pl) : Prop := Blk W g (v.map fun x => Value.int .i64 (rep x)) 2 ∧ ¬ M g ∧ ¬ P g
theorem NlAt.ext {W W' : World} {P T M M' : Nat → Prop} {g : Nat} {v : Pl} (h : NlAt W P M g v) (hE : Ext T M M' W W') (hT : ¬ T g) : NlAt W' P M' g v :=
  ⟨h.1.mods hE.mods (fun k => k.elim hT h.2.1), fun hm => h.2.1 (hE.back g h.1.lt hm), h.2.2⟩
theorem NlAt.get {W : World} {P M : Nat → Prop} {g : Nat} {v : Pl} (h : NlAt W P M g v) {p : Nat} (hp : p < v.length) : W.cell? ⟨g, p, none⟩ = some (.int .i64 (rep (v.get (p : Int)))) := by
  have e : v.get (p : Int) = v[p] := by
    unfold Pl.get
    rw [Int.toNat_natCast, List.getD_eq_getElem?_getD, List.getElem?_eq_getElem hp]
    rfl
  rw [e]
  exact h.1.cell (by rw [List.getElem?_map, List.getElem?_eq_getElem hp]; rfl)
theorem NlAt.put {W : World} {P M : Nat → Prop} {g : Nat} {v : Pl} (h : NlAt W P M g v) (p : Nat) (x : V) : NlAt (W.setCell ⟨g, p, none⟩ (.int .i64 (rep x))) P M g (v.put (p : Int) x) := by
  refine ⟨?_, h.2⟩
  have := h.1.set p (.int .i64 (rep x))
  unfold Pl.put
  rw [Int.toNat_natCast, List.map_set]
  exact this
/-- How a step ends: its places lie at g; or the run has ended. -/
def ResP (W : World) (b : Nat) (P M : Nat → Prop) (A : List (Nat × Nat)) (g : Nat) : Except Sig Pl × RS → Ending → World → Prop
  | (.ok v, s) => fun e w => e = .returned (.tuple #[]) ∧ ∃ M' A', WAt w b P M' A' s ∧ NlAt w P M' g v ∧ Ext (· = g) M M' W w ∧ A <+: A'
  | (.error (.stop k), s) => fun e w => e = .returned (.tuple #[]) ∧ ∃ M', WEnd w b P M' k s.out ∧ Ext (· = g) M M' W w
  | (.error (.ret _), _) => fun _ _ => False
/-- A place is written, and it is done. -/
theorem nput_done {W w w2 : World} {b g p : Nat} {P M M' : Nat → Prop} {A A' : List (Nat × Nat)} {s : RS} {v : Pl} {x : V} {n : Int} (HR : WAt w b P M' A' s) (HV : NlAt w P M' g v) (HE : Ext (· = g) M M' W w) (hA : A <+: A') (hn : n = rep x) (hm : Mods None (w.setCell ⟨g, p, none⟩ (.int .i64 n)) w2) :
    ResP W b P M A g (.ok (v.put (p : Int) x), s) (.returned (.tuple #[])) w2 := by
  subst hn
  have hput := HV.put p x
  have hm0 : Mods (· = g) w (w.setCell ⟨g, p, none⟩ (.int .i64 (rep x))) := mods_put _ _ _ _
  exact ⟨rfl, M', A', (HR.aside hm0 (fun k hk => by rw [hk]; exact HV.2)).quiet hm, hput.ext (Ext.quiet (T := None) hm) (fun f => f), HE.trans ((Ext.aside hm0 (fun _ _ f => f)).trans (Ext.quiet hm)), hA⟩
/-- No place is written. -/
theorem nrest_done {W w w2 : World} {b g : Nat} {P M M' : Nat → Prop} {A A' : List (Nat × Nat)} {s : RS} {v : Pl} (HR : WAt w b P M' A' s) (HV : NlAt w P M' g v) (HE : Ext (· = g) M M' W w) (hA : A <+: A') (hm : Mods None w w2) :
    ResP W b P M A g (.ok v, s) (.returned (.tuple #[])) w2 := ⟨rfl, M', A', HR.quiet hm, HV.ext (Ext.quiet (T := None) hm) (fun f => f), HE.trans (Ext.quiet hm), hA⟩
/-- It has ended; what else is written is nothing. -/
theorem nstop_done {W w w2 : World} {b g : Nat} {P M M' : Nat → Prop} {A : List (Nat × Nat)} {s : RS} {k : Int} (HR : WEnd w b P M' k s.out) (HE : Ext (· = g) M M' W w) (hg : ¬ M' g) (hm : Mods (· = g) w w2) :
    ResP W b P M A g (.error (.stop k), s) (.returned (.tuple #[])) w2 := ⟨rfl, M', HR.aside hm (fun k hk => by rw [hk]; exact hg), HE.trans (Ext.aside hm (fun _ _ f => f))⟩
/-- The step's own cells. -/
structure Rx (W0 w : World) (P M : Nat → Prop) (g q : Nat) (cs : List Value) : Prop where
  blk : Blk w q cs 65
  nm : ¬ M q ∧ ¬ P q
  far : q ≠ g
  at_ : W0.heap.size ≤ q
theorem Rx.step {W0 w w' : World} {P T M M' : Nat → Prop} {g q : Nat} {cs : List Value} (h : Rx W0 w P M g q cs) (hE : Ext T M M' w w') (hT : ¬ T q) : Rx W0 w' P M' g q cs :=
  ⟨(keep_blk h.blk hE h.nm.1 hT).1, ⟨(keep_blk h.blk hE h.nm.1 hT).2, h.nm.2⟩, h.far, h.at_⟩
theorem Rx.new {W : World} {b g : Nat} {P M : Nat → Prop} {A : List (Nat × Nat)} {s : RS} {v : Pl} (h : WAt W b P M A s) (hv : NlAt W P M g v) (cs : List Value) : Rx W (W.alloc (.cells cs.toArray 65)) P M g W.heap.size cs := by
  refine ⟨?_, ⟨fun hm => absurd (h.old _ hm) (Nat.lt_irrefl _), fun hp => absurd (h.given _ hp) (Nat.lt_irrefl _)⟩, ?_, Nat.le_refl _⟩
  · have := Blk.new W cs.toArray 65
    simpa using this
  · intro e
    have := hv.1.lt
    omega
/-- What a step is asked in. -/
structure Rin (W : World) (b g c : Nat) (P M : Nat → Prop) (A : List (Nat × Nat)) (s : RS) (F : Fm) (L : List Fm) (v : Pl) (x : Stp) : Prop where
  wat : WAt W b P M A s
  pl : NlAt W P M g v
  ty : PlTy s F.types v
  rs : RsOk s
  cap : v.length ≤ c ∧ c ≤ 1000000
  num : AluP.I64 x.n
  ok : rightB L F x = true
  few : A.length ≤ 4000000000000
def StepD (L : List Fm) (F : Fm) (x : Stp) : Prop := ∀ (v : Pl) (b g c : Nat) (P M : Nat → Prop) (A : List (Nat × Nat)) (s : RS) (la : Option Addr) (ln lc : Nat) (W : World) (aa : Option Addr) (ac : Nat) (r : Except Sig Pl × RS), Rin W b g c P M A s F L v x → stepM v x s = some r →
  Calls Tryd.prog 56 #[.pointer (some ⟨b, 0, none⟩), .slice la ln lc, .slice (some ⟨g, 0, none⟩) v.length c, .agg (stpL x (.slice aa x.args.length ac)).toArray] W (ResP W b P M A g r)
theorem i64_ok {a : Int} (h : AluP.I64 a) : AluP.I64 a := h
theorem both_way (op : List UInt8) (a b : Int) : (bothP op a b).2 = 0 ∨ (bothP op a b).2 = 2 := by
  unfold bothP
  repeat' split
  all_goals first | exact Or.inl rfl | exact Or.inr rfl
set_option maxRecDepth 100000 in
theorem item_nil (T : Nat → Prop) (b : Nat) (P M : Nat → Prop) (A : List (Nat × Nat)) (s : RS) (n : Int) (W : World) (h : WAt W b P M A s) :
    Calls Tryd.prog 76 #[.pointer (some ⟨b, 0, none⟩), .int .i64 0, .int .i64 n] W fun e w => e = .returned (.pointer none) ∧ WEnd w b P M 3 s.out ∧ Ext T M M W w := by
  obtain ⟨av, iv, k, ov, hb, -, -, -, -, h6, -⟩ := h.blk
  obtain ⟨q, c, rfl, h1, h2, h3⟩ := row_pt h6 (by omega)
  obtain ⟨m, hm⟩ : ∃ m, m = A.length + 1 := ⟨_, rfl⟩
  have h4 : W.cell? ⟨q, 0, none⟩ = some (.slice none 0 0) := h3 0 _ rfl
  rw [← hm] at hb h1
  have c0 : W.cell? ⟨b, 0, none⟩ = some (.slice (some ⟨q, 0, none⟩) m c) := hb.cell rfl
  have hjm : (0 : Int) < (m : Int) := by omega
  have HD : Hid (decide (0 ≤ n ∧ n ≤ -1) = false) := Lib.hid (decide_eq_false (by omega))
  have H := Lib.hid h
  clear h hm h3 hb h6
  go_enter Tryd.func76, Tryd.ntmps76
  go_wp2_with fail
  go_at_call 30
  refine (in_any _ _ _ _).mono ?_
  rintro e w ⟨rfl, rfl⟩
  rw [HD.out]
  go_wp2_with fail
  go_at_call 74
  refine (ends_any 3 (by decide) b P M A s W H.out).mono ?_
  rintro e w ⟨rfl, k1, k2⟩
  go_wp2
  go_ret
  exact ⟨rfl, k1, k2 T⟩
theorem arr_at {s : RS} {x : V} {i : Nat} (h : x.arr = some i) (hl : i < s.arrs.length) : s.arrs[i]? = some (arrOf s x) := by
  unfold arrOf
  rw [h]
  show _ = some (s.arrs.getD i [])
  rw [List.getD_eq_getElem?_getD, List.getElem?_eq_getElem hl]
  rfl
/-- No such number of an array. -/
theorem item_no (T : Nat → Prop) (b : Nat) (P M : Nat → Prop) (A : List (Nat × Nat)) (s : RS) (x : V) (n : Int) (W : World) (h : WAt W b P M A s) (hx : VTy2 s 2 x) (hn : n < 0 ∨ n ≥ (arrOf s x).length) :
    Calls Tryd.prog 76 #[.pointer (some ⟨b, 0, none⟩), .int .i64 (rep x), .int .i64 n] W fun e w => e = .returned (.pointer none) ∧ WEnd w b P M 3 s.out ∧ Ext T M M W w := by
  cases hi : x.arr with
  | none =>
    have : rep x = 0 := by rw [rep_num hi]; exact hx.2.2.1 rfl
    rw [this]
    exact item_nil T b P M A s n W h
  | some i =>
    rw [rep_arr hi]
    exact item_out T b P M A s i (i + 1) (arrOf s x) n W h (arr_at hi (hx.2.2.2 i hi)) rfl hn
/-- A number of an array. -/
theorem item_yes (b : Nat) (P M : Nat → Prop) (A : List (Nat × Nat)) (s : RS) (x : V) (n : Int) (W : World) (h : WAt W b P M A s) (hx : VTy2 s 2 x) (hn : 0 ≤ n ∧ n < (arrOf s x).length) :
    ∃ i g, x.arr = some i ∧ s.arrs[i]? = some (arrOf s x) ∧ A[i]? = some (g, (arrOf s x).length) ∧ Blk W g ((arrOf s x).map (.int .i64)) 2 ∧ Calls Tryd.prog 76 #[.pointer (some ⟨b, 0, none⟩), .int .i64 (rep x), .int .i64 n] W fun e w => e = .returned (.pointer (some ⟨g, n.toNat, none⟩)) ∧ W = w := by
  cases hi : x.arr with
  | none =>
    unfold arrOf at hn
    rw [hi] at hn
    simp only [List.length_nil] at hn
    omega
  | some i =>
    have ha := arr_at hi (hx.2.2.2 i hi)
    obtain ⟨q, c, g, c0, h1, h2, h3, h4, h5, h6, h40⟩ := h.place ha
    refine ⟨i, g, rfl, ha, h5, h6, ?_⟩
    rw [rep_arr hi]
    refine (item_in b P M A s i (i + 1) (arrOf s x) n W h ha rfl hn).mono ?_
    rintro e w ⟨⟨g2, k1, rfl⟩, rfl⟩
    rw [h5] at k1
    obtain ⟨rfl, -⟩ := Prod.mk.inj (Option.some.inj k1)
    exact ⟨rfl, rfl⟩
theorem stepM_none {v : Pl} {x : Stp} {s : RS} (h : x.code = 5 ∨ x.code = 6) : stepM v x s = okR v s := by
  unfold stepM
  repeat (first | rw [if_neg (by omega)] | rfl)
/-- How many numbers an array has, as it lies. -/
theorem WAt.lenOf {W : World} {b : Nat} {P M : Nat → Prop} {A : List (Nat × Nat)} {s : RS} (h : WAt W b P M A s) {x : V} (hx : VTy2 s 2 x) :
    ∃ (j q c : Nat) (a : Option Addr) (k : Nat), rep x = (j : Int) ∧ j < A.length + 1 ∧ A.length + 1 ≤ c ∧ c ≤ 9223372036854775807 ∧ W.cell? ⟨b, 0, none⟩ = some (.slice (some ⟨q, 0, none⟩) (A.length + 1) c) ∧ W.cell? ⟨q, j, none⟩ = some (.slice a (arrOf s x).length k) := by
  cases hi : x.arr with
  | none =>
    obtain ⟨av, iv, k, ov, hb, -, -, -, -, h6, -⟩ := h.blk
    obtain ⟨q, c, rfl, h1, h2, h3⟩ := row_pt h6 (by omega)
    have e : rep x = ((0 : Nat) : Int) := by rw [rep_num hi]; exact hx.2.2.1 rfl
    refine ⟨0, q, c, none, 0, e, by omega, h1, h2, hb.cell rfl, ?_⟩
    have : (arrOf s x).length = 0 := by unfold arrOf; rw [hi]; rfl
    rw [this]
    exact h3 0 _ rfl
  | some i =>
    obtain ⟨q, c, g, c0, h1, h2, h3, h4, -⟩ := h.place (arr_at hi (hx.2.2.2 i hi))
    exact ⟨i + 1, q, c, _, _, rep_arr hi, by omega, h1, h2, c0, h4⟩
/-- A number of an array is put. -/
theorem WAt.setArr {w : World} {b : Nat} {P M : Nat → Prop} {A : List (Nat × Nat)} {s : RS} (h : WAt w b P M A s) {i g : Nat} {l : List Int} (h2 : A[i]? = some (g, l.length)) (hl : s.arrs[i]? = some l) (j : Nat) (x : Int) :
    WAt (w.setCell ⟨g, j, none⟩ (.int .i64 x)) b P M A { s with arrs := s.arrs.set i (l.set j x) } ∧ Ext None M M w (w.setCell ⟨g, j, none⟩ (.int .i64 x)) := by
  obtain ⟨av, iv, k, ov, k1, k2, k3, k4, k5, k6, k7, k8⟩ := h.blk
  have hm : Mods (· = g) w (w.setCell ⟨g, j, none⟩ (.int .i64 x)) := mods_put _ _ _ _
  have hgm := List.mem_of_getElem? h2
  have hMg := (h.mine g _ hgm).1
  have hmP : Mods (fun k => ¬ P k) w (w.setCell ⟨g, j, none⟩ (.int .i64 x)) := hm.mono fun k _ e => by rw [e]; exact h.off g hMg
  refine ⟨⟨⟨av, iv, k, ov, k1.mods hm (fun e => (h.mine g _ hgm).2 e.symm), k2, k3.mods hmP (fun _ _ k => k), hm.ownsRow k4 (fun k hk e => (k5 k hk).2.2 g _ hgm e.symm), k5, hm.ownsRow k6 (fun k hk e => (k7 k hk).2.2 g _ hgm e.symm), k7, k8⟩, h.has, by simpa using h.arrs, ?_, h.mine, h.apart, fun k hk => Nat.lt_of_lt_of_le (h.old k hk) hm.size, h.off, fun k hk => Nat.lt_of_lt_of_le (h.given k hk) hm.size, h.few, h.calls⟩, ⟨hm.mono fun k _ e => Or.inr (by rw [e]; exact hMg), fun _ _ k => k⟩⟩
  intro i2 l2 hl2
  by_cases hi : i2 = i
  · subst hi
    have hlt : i2 < s.arrs.length := (List.getElem?_eq_some_iff.1 hl).1
    rw [List.getElem?_set_self hlt] at hl2
    obtain rfl := Option.some.inj hl2
    obtain ⟨g', e1, e2, e3⟩ := h.arr i2 l hl
    rw [h2] at e1
    obtain ⟨rfl, -⟩ := Prod.mk.inj (Option.some.inj e1)
    refine ⟨g, by rw [List.length_set]; exact h2, ?_, by rw [List.length_set]; exact e3⟩
    rw [List.map_set]
    exact e2.set j (.int .i64 x)
  · rw [List.getElem?_set_ne (fun e => hi e.symm)] at hl2
    obtain ⟨g', e1, e2, e3⟩ := h.arr i2 l2 hl2
    refine ⟨g', e1, e2.mods hm ?_, e3⟩
    intro e
    subst e
    have hlt1 : i2 < A.length := (List.getElem?_eq_some_iff.1 e1).1
    have hlt2 : i < A.length := (List.getElem?_eq_some_iff.1 h2).1
    have hp := List.pairwise_iff_getElem.1 h.apart
    have q1 := (List.getElem?_eq_some_iff.1 e1).2
    have q2 := (List.getElem?_eq_some_iff.1 h2).2
    rcases Nat.lt_or_gt_of_ne hi with hlt | hlt
    · exact hp i2 i hlt1 hlt2 hlt (by rw [q1, q2])
    · exact hp i i2 hlt2 hlt1 hlt (by rw [q1, q2])
set_option maxRecDepth 100000 in
set_option maxHeartbeats 1000000 in
theorem sd_const {L : List Fm} {F : Fm} {x : Stp} (hc : x.code = 1) : StepD L F x := by
  intro v b g c P M A s la ln lc W aa ac r hin hr
  obtain ⟨h, hv, hty, hrs, ⟨hvc, hc6⟩, hn64, hok, hal⟩ := hin
  obtain ⟨-, f1, f2, f3, f4⟩ := right_forms hok (by omega) (by omega)
  rw [hc] at f1 f2 f3 f4
  obtain ⟨pd, hpd, hpdl⟩ := fit_place (t := 1) (by decide) f1
  clear f1 f2 f3 f4
  rw [← hty.1] at hpdl
  unfold stepM at hr
  rw [if_pos hc] at hr
  obtain rfl := (Option.some.inj hr).symm
  obtain ⟨xc, xd, xa, xb, xe, xn, xo, xl, xm, xs⟩ := x
  simp only at hc hpd  hr hn64
  subst hc hpd
  obtain ⟨W1, hW1⟩ : ∃ W1, W1 = W.alloc (.cells (stpL ⟨1, (pd : Int), xa, xb, xe, xn, xo, xl, xm, xs⟩ (.slice aa xs.length ac)).toArray 65) := ⟨_, rfl⟩
  have HM : Mods None W W1 := by rw [hW1]; exact (Mods.refl _ _).alloc _
  have HS : Hid (Rx W W1 P M g W.heap.size (stpL ⟨1, (pd : Int), xa, xb, xe, xn, xo, xl, xm, xs⟩ (.slice aa xs.length ac))) := Lib.hid (by rw [hW1]; exact Rx.new h hv _)
  have HR := Lib.hid (h.quiet HM)
  have HV := Lib.hid (hv.ext (Ext.quiet (T := None) HM) (fun f => f))
  have HE : Hid (Ext (· = g) M M W W1) := Lib.hid (Ext.quiet HM)
  have HTY := Lib.hid (And.intro hty (And.intro hrs (And.intro hn64 hal)))
  have c0 : W1.cell? ⟨W.heap.size, 0, none⟩ = some (.int .i64 1) := HS.out.blk.cell (i := 0) rfl
  have kd : W1.cell? ⟨W.heap.size, 1, none⟩ = some (.int .i64 (pd : Int)) := HS.out.blk.cell (i := 1) rfl
  have ed := HV.out.get hpdl
  have qd : (pd : Int) < (v.length : Int) := by omega
  have PLd := Lib.hid hpdl
  obtain ⟨rd, hrd⟩ : ∃ rd, rd = rep (v.get (pd : Int)) := ⟨_, rfl⟩
  rw [← hrd] at ed
  have HRPd := Lib.hid hrd
  clear hrd
  clear hpdl
  have zd : W1.frozen? ⟨g, pd, none⟩ = false := HV.out.1.free _
  obtain ⟨n, hn⟩ : ∃ n, n = v.length := ⟨_, rfl⟩
  have HN := Lib.hid hn
  rw [← hn] at qd hvc ⊢
  clear h hv hty hrs hn64 hok HM hal hn
  unfold stpL str at *
  clear hr
  have k5 : W1.cell? ⟨W.heap.size, 5, none⟩ = some (.int .i64 xn) := HS.out.blk.cell (i := 5) rfl
  go_enter Tryd.func56, Tryd.ntmps56
  go_upto_region 1 with (fail)
  rw [← hW1]
  clear hW1
  go_wp2_with fail
  go_end0
  exact nput_done HR.out HV.out HE.out (List.prefix_refl A) (p := pd) (x := numV xn) (rep_numV xn) (by first | exact Mods.refl _ _ | exact (Mods.refl _ _).drew | exact (Mods.refl _ _).drew.drew | exact (Mods.refl _ _).drewN _)
set_option maxRecDepth 100000 in
set_option maxHeartbeats 1000000 in
theorem sd_copy {L : List Fm} {F : Fm} {x : Stp} (hc : x.code = 2) : StepD L F x := by
  intro v b g c P M A s la ln lc W aa ac r hin hr
  obtain ⟨h, hv, hty, hrs, ⟨hvc, hc6⟩, hn64, hok, hal⟩ := hin
  obtain ⟨k1, k2⟩ := right_copy_kind hok hc
  obtain ⟨pd, hpd, hpdl⟩ := place_of_kind k1
  obtain ⟨pa, hpa, hpal⟩ := place_of_kind (by rw [k2]; exact k1)
  clear k1 k2
  rw [← hty.1] at hpdl
  rw [← hty.1] at hpal
  unfold stepM at hr
  rw [if_neg (by omega), if_pos hc] at hr
  obtain rfl := (Option.some.inj hr).symm
  obtain ⟨xc, xd, xa, xb, xe, xn, xo, xl, xm, xs⟩ := x
  simp only at hc hpd hpa  hr hn64
  subst hc hpd hpa
  obtain ⟨W1, hW1⟩ : ∃ W1, W1 = W.alloc (.cells (stpL ⟨2, (pd : Int), (pa : Int), xb, xe, xn, xo, xl, xm, xs⟩ (.slice aa xs.length ac)).toArray 65) := ⟨_, rfl⟩
  have HM : Mods None W W1 := by rw [hW1]; exact (Mods.refl _ _).alloc _
  have HS : Hid (Rx W W1 P M g W.heap.size (stpL ⟨2, (pd : Int), (pa : Int), xb, xe, xn, xo, xl, xm, xs⟩ (.slice aa xs.length ac))) := Lib.hid (by rw [hW1]; exact Rx.new h hv _)
  have HR := Lib.hid (h.quiet HM)
  have HV := Lib.hid (hv.ext (Ext.quiet (T := None) HM) (fun f => f))
  have HE : Hid (Ext (· = g) M M W W1) := Lib.hid (Ext.quiet HM)
  have HTY := Lib.hid (And.intro hty (And.intro hrs (And.intro hn64 hal)))
  have c0 : W1.cell? ⟨W.heap.size, 0, none⟩ = some (.int .i64 2) := HS.out.blk.cell (i := 0) rfl
  have kd : W1.cell? ⟨W.heap.size, 1, none⟩ = some (.int .i64 (pd : Int)) := HS.out.blk.cell (i := 1) rfl
  have ed := HV.out.get hpdl
  have qd : (pd : Int) < (v.length : Int) := by omega
  have PLd := Lib.hid hpdl
  obtain ⟨rd, hrd⟩ : ∃ rd, rd = rep (v.get (pd : Int)) := ⟨_, rfl⟩
  rw [← hrd] at ed
  have HRPd := Lib.hid hrd
  clear hrd
  clear hpdl
  have zd : W1.frozen? ⟨g, pd, none⟩ = false := HV.out.1.free _
  have ka : W1.cell? ⟨W.heap.size, 2, none⟩ = some (.int .i64 (pa : Int)) := HS.out.blk.cell (i := 2) rfl
  have ea := HV.out.get hpal
  have qa : (pa : Int) < (v.length : Int) := by omega
  have PLa := Lib.hid hpal
  obtain ⟨ra, hra⟩ : ∃ ra, ra = rep (v.get (pa : Int)) := ⟨_, rfl⟩
  rw [← hra] at ea
  have HRPa := Lib.hid hra
  clear hra
  clear hpal
  have za : W1.frozen? ⟨g, pa, none⟩ = false := HV.out.1.free _
  obtain ⟨n, hn⟩ : ∃ n, n = v.length := ⟨_, rfl⟩
  have HN := Lib.hid hn
  rw [← hn] at qd qa hvc ⊢
  clear h hv hty hrs hn64 hok HM hal hn
  unfold stpL str at *
  clear hr
  go_enter Tryd.func56, Tryd.ntmps56
  go_upto_region 1 with (fail)
  rw [← hW1]
  clear hW1
  go_wp2_with fail
  go_region
  go_end0
  exact nput_done HR.out HV.out HE.out (List.prefix_refl A) (p := pd) (x := v.get (pa : Int)) HRPa.out (by first | exact Mods.refl _ _ | exact (Mods.refl _ _).drew | exact (Mods.refl _ _).drew.drew | exact (Mods.refl _ _).drewN _)
set_option maxRecDepth 100000 in
set_option maxHeartbeats 1000000 in
theorem sd_input {L : List Fm} {F : Fm} {x : Stp} (hc : x.code = 14) : StepD L F x := by
  intro v b g c P M A s la ln lc W aa ac r hin hr
  obtain ⟨h, hv, hty, hrs, ⟨hvc, hc6⟩, hn64, hok, hal⟩ := hin
  obtain ⟨-, f1, f2, f3, f4⟩ := right_forms hok (by omega) (by omega)
  rw [hc] at f1 f2 f3 f4
  obtain ⟨pd, hpd, hpdl⟩ := fit_place (t := 1) (by decide) f1
  clear f1 f2 f3 f4
  rw [← hty.1] at hpdl
  unfold stepM at hr
  rw [if_neg (by omega), if_neg (by omega), if_neg (by omega), if_neg (by omega), if_neg (by omega), if_neg (by omega), if_neg (by omega), if_neg (by omega), if_pos hc] at hr
  obtain ⟨xc, xd, xa, xb, xe, xn, xo, xl, xm, xs⟩ := x
  simp only at hc hpd  hr hn64
  subst hc hpd
  obtain ⟨W1, hW1⟩ : ∃ W1, W1 = W.alloc (.cells (stpL ⟨14, (pd : Int), xa, xb, xe, xn, xo, xl, xm, xs⟩ (.slice aa xs.length ac)).toArray 65) := ⟨_, rfl⟩
  have HM : Mods None W W1 := by rw [hW1]; exact (Mods.refl _ _).alloc _
  have HS : Hid (Rx W W1 P M g W.heap.size (stpL ⟨14, (pd : Int), xa, xb, xe, xn, xo, xl, xm, xs⟩ (.slice aa xs.length ac))) := Lib.hid (by rw [hW1]; exact Rx.new h hv _)
  have HR := Lib.hid (h.quiet HM)
  have HV := Lib.hid (hv.ext (Ext.quiet (T := None) HM) (fun f => f))
  have HE : Hid (Ext (· = g) M M W W1) := Lib.hid (Ext.quiet HM)
  have HTY := Lib.hid (And.intro hty (And.intro hrs (And.intro hn64 hal)))
  have c0 : W1.cell? ⟨W.heap.size, 0, none⟩ = some (.int .i64 14) := HS.out.blk.cell (i := 0) rfl
  have kd : W1.cell? ⟨W.heap.size, 1, none⟩ = some (.int .i64 (pd : Int)) := HS.out.blk.cell (i := 1) rfl
  have ed := HV.out.get hpdl
  have qd : (pd : Int) < (v.length : Int) := by omega
  have PLd := Lib.hid hpdl
  obtain ⟨rd, hrd⟩ : ∃ rd, rd = rep (v.get (pd : Int)) := ⟨_, rfl⟩
  rw [← hrd] at ed
  have HRPd := Lib.hid hrd
  clear hrd
  clear hpdl
  have zd : W1.frozen? ⟨g, pd, none⟩ = false := HV.out.1.free _
  obtain ⟨n, hn⟩ : ∃ n, n = v.length := ⟨_, rfl⟩
  have HN := Lib.hid hn
  rw [← hn] at qd hvc ⊢
  clear h hv hty hrs hn64 hok HM hal hn
  unfold stpL str at *
  have HR1 := Lib.hid (HR.out.quiet (Mods.refl None W1).drew)
  have HS1 := Lib.hid (HS.out.step (Ext.quiet (T := None) (Mods.refl None W1).drew) (fun f => f))
  have HV1 := Lib.hid (HV.out.ext (Ext.quiet (T := None) (Mods.refl None W1).drew) (fun f => f))
  have HE1 := Lib.hid (HE.out.trans (Ext.quiet (Mods.refl None W1).drew))
  cases hi : s.inp with
  | nil =>
    rw [hi] at hr
    obtain rfl := (Option.some.inj hr).symm
    have HC := Lib.hid (input_none b P M A s W1.drew HR1.out hi)
    clear hr hi
    go_enter Tryd.func56, Tryd.ntmps56
    go_upto_region 1 with (fail)
    rw [← hW1]
    clear hW1
    go_wp2_with fail
    go_region_with (first | (go_at_call 78; refine HC.out.mono ?_; rintro e w3 ⟨rfl, rfl⟩))
    all_goals
      go_wp2_with fail
      go_end0
      exact nput_done HR1.out HV1.out HE1.out (List.prefix_refl A) (p := pd) (x := numV 0) (rep_numV 0) (by first | exact Mods.refl _ _ | exact (Mods.refl _ _).drew | exact (Mods.refl _ _).drew.drew | exact (Mods.refl _ _).drewN _)
  | cons y t =>
    rw [hi] at hr
    obtain rfl := (Option.some.inj hr).symm
    have HC := Lib.hid (input_some None b P M A s y t W1.drew HR1.out hi)
    clear hr hi
    go_enter Tryd.func56, Tryd.ntmps56
    go_upto_region 1 with (fail)
    rw [← hW1]
    clear hW1
    go_wp2_with fail
    go_region_with (first | (go_at_call 78; refine HC.out.mono ?_; rintro e w3 ⟨rfl, k1, k2⟩; have HK1 := Lib.hid k1; have HK2 := Lib.hid k2; have HV3 := Lib.hid (HV1.out.ext k2 (fun f => f)); have kd := (HS1.out.step k2 (fun f => f)).blk.cell (i := 1) rfl; have ed := HV3.out.get PLd.out; have zd : w3.frozen? ⟨g, pd, none⟩ = false := HV3.out.1.free _; clear k1 k2))
    all_goals
      go_wp2_with fail
      go_end0
      exact nput_done HK1.out HV3.out (HE1.out.trans (HK2.out.more fun _ _ f => f.elim)) (List.prefix_refl A) (p := pd) (x := numV y) (rep_numV y) (by first | exact Mods.refl _ _ | exact (Mods.refl _ _).drew | exact (Mods.refl _ _).drew.drew | exact (Mods.refl _ _).drewN _)
set_option maxRecDepth 100000 in
set_option maxHeartbeats 1000000 in
theorem sd_print {L : List Fm} {F : Fm} {x : Stp} (hc : x.code = 13) : StepD L F x := by
  intro v b g c P M A s la ln lc W aa ac r hin hr
  obtain ⟨h, hv, hty, hrs, ⟨hvc, hc6⟩, hn64, hok, hal⟩ := hin
  obtain ⟨-, f1, f2, f3, f4⟩ := right_forms hok (by omega) (by omega)
  rw [hc] at f1 f2 f3 f4
  obtain ⟨pa, hpa, hpal⟩ := fit_place (t := 1) (by decide) f2
  have ta := hty.get (fit_kind (t := 1) (by decide) f2) (by decide)
  clear f1 f2 f3 f4
  rw [← hty.1] at hpal
  unfold stepM at hr
  rw [if_neg (by omega), if_neg (by omega), if_neg (by omega), if_neg (by omega), if_neg (by omega), if_neg (by omega), if_neg (by omega), if_pos hc] at hr
  obtain ⟨xc, xd, xa, xb, xe, xn, xo, xl, xm, xs⟩ := x
  simp only at hc hpa ta hr hn64
  subst hc hpa
  obtain ⟨W1, hW1⟩ : ∃ W1, W1 = W.alloc (.cells (stpL ⟨13, xd, (pa : Int), xb, xe, xn, xo, xl, xm, xs⟩ (.slice aa xs.length ac)).toArray 65) := ⟨_, rfl⟩
  have HM : Mods None W W1 := by rw [hW1]; exact (Mods.refl _ _).alloc _
  have HS : Hid (Rx W W1 P M g W.heap.size (stpL ⟨13, xd, (pa : Int), xb, xe, xn, xo, xl, xm, xs⟩ (.slice aa xs.length ac))) := Lib.hid (by rw [hW1]; exact Rx.new h hv _)
  have HR := Lib.hid (h.quiet HM)
  have HV := Lib.hid (hv.ext (Ext.quiet (T := None) HM) (fun f => f))
  have HE : Hid (Ext (· = g) M M W W1) := Lib.hid (Ext.quiet HM)
  have HTY := Lib.hid (And.intro hty (And.intro hrs (And.intro hn64 hal)))
  have c0 : W1.cell? ⟨W.heap.size, 0, none⟩ = some (.int .i64 13) := HS.out.blk.cell (i := 0) rfl
  have ka : W1.cell? ⟨W.heap.size, 2, none⟩ = some (.int .i64 (pa : Int)) := HS.out.blk.cell (i := 2) rfl
  have ea := HV.out.get hpal
  have qa : (pa : Int) < (v.length : Int) := by omega
  have PLa := Lib.hid hpal
  rw [rep_num (ta.2.1 rfl)] at ea
  have hna := ta.1
  obtain ⟨na, hnae⟩ : ∃ na, na = (v.get (pa : Int)).n := ⟨_, rfl⟩
  rw [← hnae] at ea hr hna
  have HNa := Lib.hid hnae
  have HIa := Lib.hid hna
  clear hnae hna ta
  clear hpal
  have za : W1.frozen? ⟨g, pa, none⟩ = false := HV.out.1.free _
  obtain ⟨n, hn⟩ : ∃ n, n = v.length := ⟨_, rfl⟩
  have HN := Lib.hid hn
  rw [← hn] at qa hvc ⊢
  clear h hv hty hrs hn64 hok HM hal hn
  unfold stpL str at *
  have HC := Lib.hid (print_any None b P M A s na W1 HR.out)
  go_enter Tryd.func56, Tryd.ntmps56
  go_upto_region 1 with (fail)
  rw [← hW1]
  clear hW1
  go_wp2_with fail
  go_at_call 77
  refine HC.out.mono ?_
  intro e w hz
  by_cases hf : s.out.length ≥ 200
  · rw [if_pos hf] at hr hz
    obtain rfl := (Option.some.inj hr).symm
    obtain ⟨rfl, M2, k1, k2⟩ := hz
    have HK := Lib.hid (And.intro k1 k2)
    clear k1 k2 hr hf
    go_wp2_with fail
    go_end0
    exact nstop_done HK.out.1 (HE.out.trans (HK.out.2.more fun _ _ f => f.elim)) (fun hm => HV.out.2.1 (HK.out.2.back g HV.out.1.lt hm)) (Mods.refl _ _)
  · rw [if_neg hf] at hr hz
    obtain rfl := (Option.some.inj hr).symm
    obtain ⟨M2, A2, rfl, k1, k2, k3⟩ := hz
    have HK := Lib.hid (And.intro k1 (And.intro k2 k3))
    clear k1 k2 k3 hr hf
    go_wp2_with fail
    go_end0
    exact nrest_done HK.out.1 (HV.out.ext HK.out.2.1 (fun f => f)) (HE.out.trans (HK.out.2.1.more fun _ _ f => f.elim)) HK.out.2.2 (Mods.refl _ _)
set_option maxRecDepth 100000 in
set_option maxHeartbeats 1000000 in
theorem sd_len {L : List Fm} {F : Fm} {x : Stp} (hc : x.code = 10) : StepD L F x := by
  intro v b g c P M A s la ln lc W aa ac r hin hr
  obtain ⟨h, hv, hty, hrs, ⟨hvc, hc6⟩, hn64, hok, hal⟩ := hin
  obtain ⟨-, f1, f2, f3, f4⟩ := right_forms hok (by omega) (by omega)
  rw [hc] at f1 f2 f3 f4
  obtain ⟨pd, hpd, hpdl⟩ := fit_place (t := 1) (by decide) f1
  obtain ⟨pa, hpa, hpal⟩ := fit_place (t := 2) (by decide) f2
  have ta := hty.get (fit_kind (t := 2) (by decide) f2) (by decide)
  clear f1 f2 f3 f4
  rw [← hty.1] at hpdl
  rw [← hty.1] at hpal
  unfold stepM at hr
  rw [if_neg (by omega), if_neg (by omega), if_neg (by omega), if_neg (by omega), if_pos hc] at hr
  obtain rfl := (Option.some.inj hr).symm
  obtain ⟨xc, xd, xa, xb, xe, xn, xo, xl, xm, xs⟩ := x
  simp only at hc hpd hpa ta hr hn64
  subst hc hpd hpa
  obtain ⟨W1, hW1⟩ : ∃ W1, W1 = W.alloc (.cells (stpL ⟨10, (pd : Int), (pa : Int), xb, xe, xn, xo, xl, xm, xs⟩ (.slice aa xs.length ac)).toArray 65) := ⟨_, rfl⟩
  have HM : Mods None W W1 := by rw [hW1]; exact (Mods.refl _ _).alloc _
  have HS : Hid (Rx W W1 P M g W.heap.size (stpL ⟨10, (pd : Int), (pa : Int), xb, xe, xn, xo, xl, xm, xs⟩ (.slice aa xs.length ac))) := Lib.hid (by rw [hW1]; exact Rx.new h hv _)
  have HR := Lib.hid (h.quiet HM)
  have HV := Lib.hid (hv.ext (Ext.quiet (T := None) HM) (fun f => f))
  have HE : Hid (Ext (· = g) M M W W1) := Lib.hid (Ext.quiet HM)
  have HTY := Lib.hid (And.intro hty (And.intro hrs (And.intro hn64 hal)))
  have c0 : W1.cell? ⟨W.heap.size, 0, none⟩ = some (.int .i64 10) := HS.out.blk.cell (i := 0) rfl
  have kd : W1.cell? ⟨W.heap.size, 1, none⟩ = some (.int .i64 (pd : Int)) := HS.out.blk.cell (i := 1) rfl
  have ed := HV.out.get hpdl
  have qd : (pd : Int) < (v.length : Int) := by omega
  have PLd := Lib.hid hpdl
  obtain ⟨rd, hrd⟩ : ∃ rd, rd = rep (v.get (pd : Int)) := ⟨_, rfl⟩
  rw [← hrd] at ed
  have HRPd := Lib.hid hrd
  clear hrd
  clear hpdl
  have zd : W1.frozen? ⟨g, pd, none⟩ = false := HV.out.1.free _
  have ka : W1.cell? ⟨W.heap.size, 2, none⟩ = some (.int .i64 (pa : Int)) := HS.out.blk.cell (i := 2) rfl
  have ea := HV.out.get hpal
  have qa : (pa : Int) < (v.length : Int) := by omega
  have PLa := Lib.hid hpal
  have HTa := Lib.hid ta
  clear ta
  clear hpal
  have za : W1.frozen? ⟨g, pa, none⟩ = false := HV.out.1.free _
  obtain ⟨n, hn⟩ : ∃ n, n = v.length := ⟨_, rfl⟩
  have HN := Lib.hid hn
  rw [← hn] at qd qa hvc ⊢
  clear h hv hty hrs hn64 hok HM hal hn
  unfold stpL str at *
  obtain ⟨j, q, c2, a2, k2, hj, hjm, hc1, hc2, b0, bq⟩ := HR.out.lenOf (HTa.out.on (Nat.le_refl _))
  rw [hj] at ea
  obtain ⟨m, hm⟩ : ∃ m, m = A.length + 1 := ⟨_, rfl⟩
  obtain ⟨ln2, hln2⟩ : ∃ ln2, ln2 = (arrOf s (v.get (pa : Int))).length := ⟨_, rfl⟩
  rw [← hm] at b0 hjm hc1
  rw [← hln2] at bq ⊢
  have hjm2 : (j : Int) < (m : Int) := by omega
  clear hr hj hm hln2 hjm
  go_enter Tryd.func56, Tryd.ntmps56
  go_upto_region 1 with (fail)
  rw [← hW1]
  clear hW1
  go_wp2_with fail
  go_region
  go_end0
  exact nput_done HR.out HV.out HE.out (List.prefix_refl A) (p := pd) (x := numV (ln2 : Int)) (rep_numV _) (by first | exact Mods.refl _ _ | exact (Mods.refl _ _).drew | exact (Mods.refl _ _).drew.drew | exact (Mods.refl _ _).drewN _)
set_option maxRecDepth 100000 in
set_option maxHeartbeats 1000000 in
theorem sd_none {L : List Fm} {F : Fm} {x : Stp} (hc : x.code = 5 ∨ x.code = 6) : StepD L F x := by
  intro v b g c P M A s la ln lc W aa ac r hin hr
  obtain ⟨h, hv, hty, hrs, ⟨hvc, hc6⟩, hn64, hok, hal⟩ := hin
  rw [stepM_none hc] at hr
  obtain rfl := (Option.some.inj hr).symm
  obtain ⟨xc, xd, xa, xb, xe, xn, xo, xl, xm, xs⟩ := x
  simp only at hc   hr hn64
  obtain ⟨W1, hW1⟩ : ∃ W1, W1 = W.alloc (.cells (stpL ⟨xc, xd, xa, xb, xe, xn, xo, xl, xm, xs⟩ (.slice aa xs.length ac)).toArray 65) := ⟨_, rfl⟩
  have HM : Mods None W W1 := by rw [hW1]; exact (Mods.refl _ _).alloc _
  have HS : Hid (Rx W W1 P M g W.heap.size (stpL ⟨xc, xd, xa, xb, xe, xn, xo, xl, xm, xs⟩ (.slice aa xs.length ac))) := Lib.hid (by rw [hW1]; exact Rx.new h hv _)
  have HR := Lib.hid (h.quiet HM)
  have HV := Lib.hid (hv.ext (Ext.quiet (T := None) HM) (fun f => f))
  have HE : Hid (Ext (· = g) M M W W1) := Lib.hid (Ext.quiet HM)
  have HTY := Lib.hid (And.intro hty (And.intro hrs (And.intro hn64 hal)))
  have c0 : W1.cell? ⟨W.heap.size, 0, none⟩ = some (.int .i64 xc) := HS.out.blk.cell (i := 0) rfl
  obtain ⟨n, hn⟩ : ∃ n, n = v.length := ⟨_, rfl⟩
  have HN := Lib.hid hn
  rw [← hn] at  hvc ⊢
  have j1 : ∀ k : Int, k ≠ 5 → k ≠ 6 → (xc == k) = false := fun k h5 h6 => by rcases hc with rfl | rfl <;> simp <;> omega
  have b1 := j1 1 (by decide) (by decide)
  have b2 := j1 2 (by decide) (by decide)
  have b3 := j1 3 (by decide) (by decide)
  have b7 := j1 7 (by decide) (by decide)
  have b9 := j1 9 (by decide) (by decide)
  have b10 := j1 10 (by decide) (by decide)
  have b11 := j1 11 (by decide) (by decide)
  have b12 := j1 12 (by decide) (by decide)
  have b13 := j1 13 (by decide) (by decide)
  have b14 := j1 14 (by decide) (by decide)
  clear j1 hc
  clear h hv hty hrs hn64 hok HM hal hn
  unfold stpL str at *
  clear hr
  go_enter Tryd.func56, Tryd.ntmps56
  go_upto_region 1 with (fail)
  rw [← hW1]
  clear hW1
  go_wp2_with fail
  go_end0
  exact nrest_done HR.out HV.out HE.out (List.prefix_refl A) (Mods.refl _ _)
end Go.Proofs.YtoajcbfejplfbaaDoor.MidP.R

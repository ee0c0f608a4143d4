/- The document's steps: a call of a function of steps. Conditions: what it has lies; the functions are right. -/
import Derived.Test.YtoajcbfejplfbaaDoorRsStM
import Derived.Test.YtoajcbfejplfbaaDoorRsStC
import Derived.Test.YtoajcbfejplfbaaDoorMidRnA
import Derived.Test.YtoajcbfejplfbaaDoorStepCopy
import Derived.Defers
import Derived.Deep.DeepCutAuto
namespace Go.Proofs.YtoajcbfejplfbaaDoor.MidP.R
open Go.RowKit Go.Proofs.YtoajcbfejplfbaaDoor.Wo Go.Maps Go.Proofs.YtoajcbfejplfbaaDoor.TreeP Go.Proofs.YtoajcbfejplfbaaDoor.MidP
set_option linter.unusedVariables false
set_option linter.unusedSimpArgs false
theorem WEnd.callsAt {W : World} {b : Nat} {P M : Nat → Prop} {way : Int} {out : List Int} (h : WEnd W b P M way out) : ∃ c : Int, W.cell? ⟨b, 3, none⟩ = some (.int .i64 c) ∧ W.frozen? ⟨b, 3, none⟩ = false ∧ WEnd (W.setCell ⟨b, 3, none⟩ (.int .i64 (wrap64 (c - 1)))) b P M way out ∧ ∀ T, Ext T M M W (W.setCell ⟨b, 3, none⟩ (.int .i64 (wrap64 (c - 1)))) := by
  obtain ⟨av, iv, k, c, ov, m, r, h1, h4, h5, h6, h7⟩ := h.blk
  have hm := mods_put W b 3 (.int .i64 (wrap64 (c - 1)))
  exact ⟨c, h1.cell rfl, h1.free 3, ⟨⟨av, iv, k, _, ov, m, r, h1.set 3 _, hm.ownsRow h4 (fun k hk e => (h5 k hk).2 e), h5, hm.ownsRow h6 (fun k hk e => (h7 k hk).2 e), h7⟩, h.has, fun k hk => Nat.lt_of_lt_of_le (h.old k hk) hm.size, h.off, fun k hk => Nat.lt_of_lt_of_le (h.given k hk) hm.size, h.few, h.way⟩, fun T => ⟨hm.mono fun k _ hk => Or.inr (by rw [hk]; exact h.has), fun _ _ k => k⟩⟩
theorem WAt.callsAt {W : World} {b : Nat} {P M : Nat → Prop} {A : List (Nat × Nat)} {s : RS} (h : WAt W b P M A s) (h1 : 1 ≤ s.calls) : W.cell? ⟨b, 3, none⟩ = some (.int .i64 s.calls) ∧ W.frozen? ⟨b, 3, none⟩ = false ∧ WAt (W.setCell ⟨b, 3, none⟩ (.int .i64 (wrap64 ((s.calls : Int) - 1)))) b P M A { s with calls := s.calls - 1 } ∧ ∀ T, Ext T M M W (W.setCell ⟨b, 3, none⟩ (.int .i64 (wrap64 ((s.calls : Int) - 1)))) := by
  obtain ⟨av, iv, k, ov, hb, -⟩ := h.blk
  have hle := h.calls
  have hw : wrap64 ((s.calls : Int) - 1) = ((s.calls - 1 : Nat) : Int) := by unfold wrap64; omega
  rw [hw]
  exact ⟨hb.cell rfl, hb.free 3, h.setCalls (s.calls - 1) (by omega), fun T => h.ext T _ _⟩
set_option maxRecDepth 100000 in
theorem dec_any (q b : Nat) (c : Int) (w : World) (hq : w.cell? ⟨q, 0, none⟩ = some (.pointer (some ⟨b, 0, none⟩))) (h3 : w.cell? ⟨b, 3, none⟩ = some (.int .i64 c)) (z3 : w.frozen? ⟨b, 3, none⟩ = false) :
    CallsD Tryd.prog 54 #[.pointer (some ⟨q, 0, none⟩)] .returning w fun e u' w' => u' = .returning ∧ e = .returned (.tuple #[]) ∧ w.setCell ⟨b, 3, none⟩ (.int .i64 (wrap64 (c - 1))) = w' := by
  go_enter_d Tryd.func54, Tryd.ntmps54
  go_wp2_with fail
  go_end0
  exact ⟨rfl, rfl⟩
theorem code_done {R : Ending → World → Prop} {tmps : Array Value} {q b : Nat} {n c : Int} {w : World} (h8 : tmps.getD 8 undef = .int .i64 n) (hq : w.cell? ⟨q, 0, none⟩ = some (.pointer (some ⟨b, 0, none⟩))) (h3 : w.cell? ⟨b, 3, none⟩ = some (.int .i64 c)) (z3 : w.frozen? ⟨b, 3, none⟩ = false)
    (hR : R (.returned (.int .i64 n)) (w.setCell ⟨b, 3, none⟩ (.int .i64 (wrap64 (c - 1))))) :
    Leaves Tryd.prog Tryd.f36 tmps R [{ target := Target.fn (Go.Fn.func 54) #[.pointer (some ⟨q, 0, none⟩)], args := #[] }] .returning w := by
  refine leaves_cons (f := 54) (args := #[.pointer (some ⟨q, 0, none⟩)]) (by simp) (by simp [go_sem]) ?_
  refine (dec_any q b c w hq h3 z3).mono ?_
  rintro e u' w' ⟨rfl, rfl, rfl⟩
  show Leaves _ _ _ _ [] .returning _
  unfold Leaves
  exact ⟨_, results_tmp rfl _ _ _, by rw [h8]; exact hR⟩
theorem sd_any {L : List Fm} {F : Fm} {x : Stp} (hok : rightB L F x = true) (h4 : x.code ≠ 4) (h7 : x.code ≠ 7) (h8 : x.code ≠ 8) : StepD L F x := by
  by_cases h2 : x.code = 2
  · exact sd_copy h2
  have hr := (right_forms hok h2 h7).1
  have hc : x.code = 1 ∨ x.code = 3 ∨ (x.code = 5 ∨ x.code = 6) ∨ x.code = 9 ∨ x.code = 10 ∨ x.code = 11 ∨ x.code = 12 ∨ x.code = 13 ∨ x.code = 14 := by omega
  rcases hc with h | h | h | h | h | h | h | h | h
  · exact sd_const h
  · exact sd_two h
  · exact sd_none h
  · exact sd_new h
  · exact sd_len h
  · exact sd_load h
  · exact sd_store h
  · exact sd_print h
  · exact sd_input h
/-- What is known of all functions. -/
structure RcNums (L : List Fm) : Prop where
  ok : OkM L
  small : ∀ f ∈ L, f.steps.length ≤ 6000 ∧ f.types.length ≤ 3000
  txt : ∀ f ∈ L, ∀ s ∈ f.steps, s.name.length ≤ maxLen ∧ s.args.length ≤ 3000
theorem OkM.pos {L : List Fm} (h : OkM L) {f : Fm} (hf : f ∈ L) : 0 < f.steps.length := by
  have := h.fn hf
  unfold fnB at this
  simp only [Bool.and_eq_true, decide_eq_true_eq] at this
  omega
/-- A step that goes on with the next one, a call too. -/
def stepX (L : List Fm) (k : Nat) (v : Pl) (y : Stp) (s : RS) : RM Pl := if y.code = 7 then bindR (callM L k s y.name (y.args.map v.get)) (fun n t => okR (v.put y.dst (numV n)) t) else stepM v y s
theorem goM_step {L : List Fm} {k : Nat} {s : RS} {F : Fm} {v : Pl} {i : Nat} {y : Stp} (h4 : y.code ≠ 4) (h8 : y.code ≠ 8) (h5 : y.code = 5 → (v.get y.a).n ≠ 0) :
    (if y.code = 4 then goM L k s F v (atP F y.label + 1)
      else if y.code = 5 then (if (v.get y.a).n = 0 then goM L k s F v (atP F y.label + 1) else goM L k s F v (i + 1))
      else if y.code = 7 then bindR (callM L k s y.name (y.args.map v.get)) fun n s => goM L k s F (v.put y.dst (numV n)) (i + 1)
      else if y.code = 8 then okR (v.get y.a).n s
      else bindR (stepM v y s) fun v s => goM L k s F v (i + 1)) = bindR (stepX L k v y s) fun v s => goM L k s F v (i + 1) := by
  unfold stepX
  rw [if_neg h4]
  by_cases e5 : y.code = 5
  · rw [if_pos e5, if_neg (h5 e5), if_neg (by omega), stepM_none (Or.inl e5)]
    rfl
  rw [if_neg e5]
  by_cases e7 : y.code = 7
  · rw [if_pos e7, if_pos e7]
    cases hc : callM L k s y.name (y.args.map v.get) with
    | none => rfl
    | some r => obtain ⟨r, t⟩ := r; cases r <;> rfl
  rw [if_neg e7, if_neg h8, if_neg e7]
theorem stepX_ty {L : List Fm} (hL : OkM L) {F : Fm} (hF : F ∈ L) {y : Stp} (hy : y ∈ F.steps) {k : Nat} {v v2 : Pl} {s t : RS} (hv : PlTy s F.types v) (hs : RsOk s) (h : stepX L k v y s = some (.ok v2, t)) : PlTy t F.types v2 ∧ KeepT s t 1 ∧ t.calls = s.calls := by
  unfold stepX at h
  by_cases e7 : y.code = 7
  · rw [if_pos e7] at h
    rcases bind_some h with ⟨n, u, e1, h⟩ | ⟨e, u, e1, h⟩
    rotate_left
    · cases h
    obtain ⟨rfl, rfl⟩ := okR_inj h
    obtain ⟨hd, G, hG, hGl, -, hGt⟩ := args_vty hL hF hy e7 hv
    obtain ⟨k1, k2, k3, k4⟩ := (tyM_all hL k).2 s y.name _ _ hs ⟨G, hG, hGl, hGt⟩ e1 n rfl
    refine ⟨(hv.on k3).put hd (by decide) (VTy2.num _ k1), ⟨k2, k3, Nat.le_succ_of_le k4⟩, ?_⟩
    rcases (keptM_all L k).2 s y.name _ _ e1 with ⟨_, h⟩ | ⟨_, h⟩
    · cases h
    · exact h
  · rw [if_neg e7] at h
    obtain ⟨k1, k2⟩ := stepM_ty (hL.right hF hy) hv hs (hL.num F hF y hy) h
    refine ⟨k1, k2, ?_⟩
    rcases stepM_kept v y s _ h with ⟨_, h⟩ | ⟨_, h⟩
    · cases h
    · exact h
theorem stepX_goes {L : List Fm} {k : Nat} {v v2 : Pl} {y : Stp} {s t : RS} (h : stepX L k v y s = some (.ok v2, t)) : t.fuel ≤ s.fuel := by
  unfold stepX at h
  by_cases e7 : y.code = 7
  · rw [if_pos e7] at h
    rcases bind_some h with ⟨n, u, e1, h⟩ | ⟨e, u, e1, h⟩
    · obtain ⟨rfl, rfl⟩ := okR_inj h
      exact (goesM_all burns_way L k).2 s _ _ _ e1
    · cases h
  · rw [if_neg e7] at h
    exact stepM_goes burns_way v y s _ h
theorem sx_any {L : List Fm} (hL : RcNums L) {F : Fm} (hF : F ∈ L) {y : Stp} (hy : y ∈ F.steps) (h4 : y.code ≠ 4) (h8 : y.code ≠ 8) {k : Nat} (ih : CdC L k) :
    ∀ (v : Pl) (b g c : Nat) (P M : Nat → Prop) (A : List (Nat × Nat)) (s : RS) (la : Option Addr) (ln lc : Nat) (W : World) (aa : Option Addr) (ac : Nat) (r : Except Sig Pl × RS), Rin W b g c P M A s F L v y → FmsAt W (fun k => ¬ P k) (.slice la ln lc) L → IntsAt W (fun k => ¬ P k) (.slice aa y.args.length ac) y.args → s.arrs.length + s.fuel ≤ 1000000000000 → stepX L k v y s = some r →
  Calls Tryd.prog 56 #[.pointer (some ⟨b, 0, none⟩), .slice la ln lc, .slice (some ⟨g, 0, none⟩) v.length c, .agg (stpL y (.slice aa y.args.length ac)).toArray] W (ResP W b P M A g r) := by
  intro v b g c P M A s la ln lc W aa ac r hin hfm hA hfew hr
  unfold stepX at hr
  by_cases e7 : y.code = 7
  · rw [if_pos e7] at hr
    exact sd_call hL.ok hF hy e7 (hL.txt F hF y hy).1 (hL.txt F hF y hy).2 ih v b g c P M A s la ln lc W aa ac r hin hfm hA hfew hr
  · rw [if_neg e7] at hr
    exact sd_any (hL.ok.right hF hy) h4 e7 h8 v b g c P M A s la ln lc W aa ac r hin hr
/-- Where a call's steps stand. -/
structure CoSt (W : World) (P M : Nat → Prop) (A : List (Nat × Nat)) (b g q q4 : Nat) (L : List Fm) (F : Fm) (ta sa : Option Addr) (tc sc c0 : Nat) (r : Except Sig Int × RS) (k i : Nat) (v : Pl) (M' : Nat → Prop) (A' : List (Nat × Nat)) (s' : RS) (wr : World) : Prop where
  run : bindR (goM L k s' F v i) (fun n t => okR n { t with calls := t.calls - 1 }) = some r
  wat : WAt wr b P M' A' s'
  pl : NlAt wr P M' g v
  ty : PlTy s' F.types v
  rs : RsOk s'
  few : s'.arrs.length + s'.fuel ≤ 1000000000000
  ext : Ext None M M' W wr
  pre : A <+: A'
  box : Blk wr q [str F.name, .int .i64 F.params, .slice ta F.types.length tc, .slice sa F.steps.length sc] 64
  nq : ¬ M' q ∧ ¬ P q
  wbx : Blk wr q4 [.pointer (some ⟨b, 0, none⟩)] 83
  n4 : ¬ M' q4 ∧ ¬ P q4
  sts : StpsAt wr (fun k => ¬ P k) (.slice sa F.steps.length sc) F.steps
  lt : i < F.steps.length
  base : W.heap.size ≤ g ∧ W.heap.size ≤ q ∧ W.heap.size ≤ q4 ∧ g ≠ q ∧ g ≠ q4
  calls : s'.calls = c0 + 1
theorem CoSt.next {W wr w : World} {P M : Nat → Prop} {A : List (Nat × Nat)} {b g q q4 : Nat} {L : List Fm} {F : Fm} {ta sa : Option Addr} {tc sc c0 : Nat} {r : Except Sig Int × RS} {k i : Nat} {v : Pl} {M' T M2 : Nat → Prop} {A' A2 : List (Nat × Nat)} {s' s2 : RS} {k2 i2 : Nat} {v2 : Pl}
    (h : CoSt W P M A b g q q4 L F ta sa tc sc c0 r k i v M' A' s' wr) (hrun : bindR (goM L k2 s2 F v2 i2) (fun n t => okR n { t with calls := t.calls - 1 }) = some r) (hR : WAt w b P M2 A2 s2) (hv : NlAt w P M2 g v2) (hty : PlTy s2 F.types v2) (hrs : RsOk s2) (hfew : s2.arrs.length + s2.fuel ≤ 1000000000000) (hE : Ext T M' M2 wr w) (hT : ∀ j, T j → j = g) (hA : A' <+: A2) (hc : s2.calls = c0 + 1) (hlt : i2 < F.steps.length) :
    CoSt W P M A b g q q4 L F ta sa tc sc c0 r k2 i2 v2 M2 A2 s2 w := by
  obtain ⟨h1, h2, h3, h4, h5, h6, h7, h8, h9, h10, h11, h12, hst, h13, h14, h15⟩ := h
  have hq : ¬ T q := fun e => h14.2.2.2.1 (hT q e).symm
  have hq4 : ¬ T q4 := fun e => h14.2.2.2.2 (hT q4 e).symm
  exact ⟨hrun, hR, hv, hty, hrs, hfew, h7.transNew hE (fun j hj hTj => by have := hT j hTj; have := h14.1; omega), h8.trans hA, (keep_blk h9 hE h10.1 hq).1, ⟨(keep_blk h9 hE h10.1 hq).2, h10.2⟩, (keep_blk h11 hE h12.1 hq4).1, ⟨(keep_blk h11 hE h12.1 hq4).2, h12.2⟩, hst.mods (hE.mods.mono fun j _ hj => hj.elim (fun e => by rw [hT j e]; exact h3.2.2) (h2.off j)) (fun _ _ k => k), hlt, h14, hc⟩
/-- What a jump looks for among the first steps; it starts from here. -/
theorem look_next {F : Fm} {m : Nat} {x : Stp} (h : F.steps[m]? = some x) (l : Int) (i : Nat) : labelAt (F.steps.take (m + 1)) l 0 i = if x.code = 6 ∧ x.label = l then m else labelAt (F.steps.take m) l 0 i := by
  have hl := (List.getElem?_eq_some_iff.1 h).1
  rw [List.take_succ_eq_append_getElem hl, (List.getElem?_eq_some_iff.1 h).2, labelAt_last, List.length_take, Nat.min_eq_left (Nat.le_of_lt hl), Nat.zero_add]
/-- Where it starts from is nothing to it. -/
theorem look_any {L : List Fm} (hL : OkM L) {F : Fm} (hF : F ∈ L) {x : Stp} (hx : x ∈ F.steps) (hj : x.code = 4 ∨ x.code = 5) (i : Nat) : labelAt F.steps x.label 0 i = atP F x.label := by
  have hr := hL.right hF hx
  have hh : hasLabel F x.label = true := by
    unfold rightB at hr
    rw [if_neg (by omega), if_neg (by omega)] at hr
    split at hr
    · cases hr
    · simp only [Bool.and_eq_true, Bool.or_eq_true, Bool.not_eq_true', Bool.or_eq_false_iff, beq_eq_false_iff_ne] at hr
      rcases hr.1.2 with k | k
      · omega
      · exact k
  rw [has_iff] at hh
  obtain ⟨pre, y, post, e1, e2, e3, e4⟩ := lab_split F.steps hh
  unfold atP
  rw [e1, labelAt_split ⟨e2, e3⟩ e4 pre 0 i, labelAt_split ⟨e2, e3⟩ e4 pre 0 0]
theorem size_int : (Tryd.prog.info? 2).map (·.size) = some 1 := by kernel_rfl
/-- Places of a call: what is handed over, the rest empty. -/
theorem nl_filled {w : World} {P M : Nat → Prop} {g n : Nat} {vs : List V} (hb : Blk w g (splice ((List.replicate n (0 : Int)).map (Value.int .i64)) 0 ((vs.map rep).map (.int .i64))) 2) (hl : vs.length ≤ n) (hM : ¬ M g) (hP : ¬ P g) : NlAt w P M g (fillP vs n) := by
  refine ⟨?_, hM, hP⟩
  have e : splice ((List.replicate n (0 : Int)).map (Value.int .i64)) 0 ((vs.map rep).map (.int .i64)) = (fillP vs n).map (fun x => Value.int .i64 (rep x)) := by
    unfold splice fillP
    rw [List.take_of_length_le hl]
    simp [rep, Function.comp_def]
  rw [← e]
  exact hb
theorem rep_one (vs : List V) : ∀ v ∈ (vs.map rep).map (Value.int .i64), v.oneCell' = true := by
  intro v hv
  obtain ⟨y, _, rfl⟩ := List.mem_map.1 hv
  rfl
/-- What a call is handed, at its address. -/
theorem Nms.at_ {W : World} {base : Nat} {P M : Nat → Prop} {lv : Value} {ns : List Int} (h : Nms W base P M lv ns) : ∃ (la : Option Addr) (lc : Nat), lv = .slice la ns.length lc ∧ (0 < ns.length → ∃ ad, la = some ad ∧ ∀ j v, (ns.map (Value.int .i64))[j]? = some v → W.cell? (ad.add j) = some v) := by
  obtain ⟨la, lc, rfl⟩ := sl_form h.1
  refine ⟨la, lc, rfl, fun hp => ?_⟩
  rcases h.1.2 with ⟨hv, h0⟩ | ⟨g, cap, cur, hv, _⟩
  · omega
  · simp only [Value.slice.injEq] at hv
    obtain ⟨rfl, -, -⟩ := hv
    exact ⟨_, rfl, fun j v hj => h.1.cells (g := g) rfl j v hj⟩
/-- A function by its name: none ahead of it has the name. -/
theorem fm_at {L : List Fm} {g : List UInt8} {G : Fm} (h : fmOf L g = some G) : ∃ j, L[j]? = some G ∧ G.name = g ∧ ∀ (i : Nat) (x : Fm), i < j → L[i]? = some x → x.name ≠ g := by
  unfold fmOf at h
  rw [find_idx] at h
  cases hk : L.findIdx? (fun f => f.name == g) with
  | none => rw [hk] at h; cases h
  | some j =>
    rw [hk] at h
    obtain ⟨h1, h2, h3⟩ := List.findIdx?_eq_some_iff_getElem.1 hk
    have hG : L[j]? = some G := h
    have hGe := (List.getElem?_eq_some_iff.1 hG).2
    refine ⟨j, hG, by rw [hGe] at h2; simpa using h2, fun i x hi hx => ?_⟩
    have := h3 i hi
    rw [(List.getElem?_eq_some_iff.1 hx).2] at this
    simpa using this
end Go.Proofs.YtoajcbfejplfbaaDoor.MidP.R

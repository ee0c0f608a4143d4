/- The document's text of an expression. Conditions: the powers of ten and a number of the library's own lie. -/
import Derived.Test.YtdgedlhefjmcpaaGreatDoorTreeBck
import Derived.Test.YtdgedlhefjmcpaaGreatDoorRefExpr
import Derived.Test.YtdgedlhefjmcpaaGreatDoorTreeWr
namespace Go.Proofs.YtdgedlhefjmcpaaGreatDoor.TreeP.R
open Go.RowKit Go.Proofs.YtdgedlhefjmcpaaGreatDoor.Wo Go.Proofs.YtdgedlhefjmcpaaGreatDoor.TreeP
set_option linter.unusedVariables false
set_option linter.unusedSimpArgs false
/-- It must stand in brackets where such a level may stand. -/
def needB : Ex → Nat → Bool
  | .bin _ op _ _, n => decide (lvlFrom levelList 0 op < n)
  | .un _ _ _, n => decide (6 < n)
  | _, _ => false
def textR (e : Ex) (n : Nat) : List UInt8 := if needB e n then [40] ++ textB e ++ [41] else textB e
theorem need_at (e : Ex) {n : Nat} (h : n ≤ 6) : needB e n = true ↔ ¬ n ≤ levelB e := by
  cases e <;> simp only [needB, levelB, decide_eq_true_eq, Bool.false_eq_true, false_iff] <;> omega
theorem textR_at (e : Ex) {n : Nat} (h : n ≤ 6) : textR e n = paren (levelB e) n (textB e) := by
  unfold textR paren
  by_cases h1 : n ≤ levelB e
  · rw [if_pos h1, if_neg (fun hh => (need_at e h).1 hh h1)]
  · rw [if_neg h1, if_pos ((need_at e h).2 h1)]
theorem textR_zero (e : Ex) : textR e 0 = textB e := by
  rw [textR_at e (by omega)]
  unfold paren
  rw [if_pos (by omega)]
theorem lvl_five (op : List UInt8) : lvlFrom levelList 0 op ≤ 5 := by
  have := lvlFrom_le levelList 0 op
  have h6 : levelList.length = 6 := rfl
  omega
theorem need_seven (e : Ex) : needB e 7 = true ↔ (isUn e = true ∨ ¬ 6 ≤ levelB e) := by
  cases e <;> simp only [needB, levelB, isUn, decide_eq_true_eq, Bool.false_eq_true, false_iff, false_or, true_or, iff_true]
  case bin a op l r => have := lvl_five op; omega
  all_goals omega
theorem textR_seven (e : Ex) : textR e 7 = if isUn e then [40] ++ textB e ++ [41] else paren (levelB e) 6 (textB e) := by
  unfold textR paren
  by_cases h1 : isUn e = true
  · rw [if_pos h1, if_pos ((need_seven e).2 (Or.inl h1))]
  · rw [if_neg h1]
    by_cases h2 : 6 ≤ levelB e
    · rw [if_pos h2, if_neg (fun hh => ((need_seven e).1 hh).elim h1 (fun k => k h2))]
    · rw [if_neg h2, if_pos ((need_seven e).2 (Or.inr h2))]
theorem textR_len (e : Ex) (n : Nat) : (textB e).length ≤ (textR e n).length := by
  unfold textR
  split
  · simp only [List.length_append]; omega
  · exact Nat.le_refl _
/-- What writing reads. -/
structure TxR (W : World) : Prop where
  pow : PowTab W
  most : MaxAt W W.heap.size
theorem TxR.next {W W' : World} (h : TxR W) (hm : Mods None W W') : TxR W' := by
  obtain ⟨h1, m, h2⟩ := h.most.far hm (fun _ f => f.elim)
  exact ⟨tab_next h.pow hm, Nat.lt_of_lt_of_le h1 hm.size, m, h2⟩
def TxC (e : Ex) : Prop := ∀ (n : Nat) (v : Value) (d : Nat) (W : World), n ≤ 7 → TxR W → Fit e d → (textB e).length ≤ 1000000000 → ExAt W None e v →
  Calls Tryz.prog 92 #[v, .int .i64 n] W fun r w => r = .returned (.string ⟨(textR e n).toArray⟩) ∧ Mods None W w
theorem tx_num (a n : Int) : TxC (.num a n) := by
  intro k v d W hk hP hn hl h
  simp only [ExAt, Fit] at h hn
  obtain ⟨g, rfl, _, hb⟩ := h
  have c0 : W.cell? ⟨g, 0, none⟩ = some (.int .i64 1) := hb.cell (i := 0) rfl
  have c2 : W.cell? ⟨g, 2, none⟩ = some (.int .i64 n) := hb.cell (i := 2) rfl
  have HC := Lib.hid (Tryz.strconv_FormatInt_10 n (by omega) (by omega) W hP.pow)
  clear hP hb hl
  go_enter Tryz.func92, Tryz.ntmps92
  go_wp2_with (go_at_call 120; refine HC.out.mono ?_; rintro e w ⟨rfl, k, os, rfl⟩)
  go_ret
  exact ⟨by simp only [textR, needB, textB]; rfl, grow_mods W k os⟩
theorem tx_var (a : Int) (s : List UInt8) : TxC (.var a s) := by
  intro k v d W hk hP hn hl h
  simp only [ExAt] at h
  obtain ⟨g, rfl, _, hb⟩ := h
  have c0 : W.cell? ⟨g, 0, none⟩ = some (.int .i64 2) := hb.cell (i := 0) rfl
  have c3 : W.cell? ⟨g, 3, none⟩ = some (.string ⟨s.toArray⟩) := hb.cell (i := 3) rfl
  clear hP hb hl
  go_enter Tryz.func92, Tryz.ntmps92
  go_wp2
  go_ret
  exact ⟨by simp only [textR, needB, textB]; rfl, Mods.refl _ _⟩
theorem tx_input (a : Int) : TxC (.input a) := by
  intro k v d W hk hP hn hl h
  simp only [ExAt] at h
  obtain ⟨g, rfl, _, hb⟩ := h
  have c0 : W.cell? ⟨g, 0, none⟩ = some (.int .i64 9) := hb.cell (i := 0) rfl
  clear hP hb hl
  go_enter Tryz.func92, Tryz.ntmps92
  go_wp2
  go_ret
  exact ⟨by simp only [textR, needB, textB]; rfl, Mods.refl _ _⟩
theorem tx_new (a : Int) {x : Ex} (hx : TxC x) : TxC (.new a x) := by
  intro k v d W hk hP hn hl h
  simp only [ExAt, Fit] at h hn
  obtain ⟨y, ⟨g, rfl, _, hb⟩, hy⟩ := h
  obtain ⟨gy, rfl⟩ := hy.ptr
  have c0 : W.cell? ⟨g, 0, none⟩ = some (.int .i64 6) := hb.cell (i := 0) rfl
  have c5 : W.cell? ⟨g, 5, none⟩ = some (.pointer (some ⟨gy, 0, none⟩)) := hb.cell (i := 5) rfl
  have hlx : (textB x).length ≤ 1000000000 := by simp only [textB, List.length_append] at hl; omega
  have hc := hx 0 _ (d + 1) W (by omega) hP hn.2 hlx hy
  rw [textR_zero] at hc
  have HC := Lib.hid hc
  clear hP hb hl hy hc
  go_enter Tryz.func92, Tryz.ntmps92
  go_wp2_with (go_at_call 92; refine HC.out.mono ?_; rintro e w ⟨rfl, hm⟩)
  go_ret
  refine ⟨congrArg Ending.returned (congrArg Value.string ?_), hm⟩
  simp only [textR, needB, textB, ba_append, Bool.false_eq_true, if_false]
theorem tx_len (a : Int) {x : Ex} (hx : TxC x) : TxC (.len a x) := by
  intro k v d W hk hP hn hl h
  simp only [ExAt, Fit] at h hn
  obtain ⟨y, ⟨g, rfl, _, hb⟩, hy⟩ := h
  obtain ⟨gy, rfl⟩ := hy.ptr
  have c0 : W.cell? ⟨g, 0, none⟩ = some (.int .i64 7) := hb.cell (i := 0) rfl
  have c5 : W.cell? ⟨g, 5, none⟩ = some (.pointer (some ⟨gy, 0, none⟩)) := hb.cell (i := 5) rfl
  have hlx : (textB x).length ≤ 1000000000 := by simp only [textB, List.length_append] at hl; omega
  have hc := hx 0 _ (d + 1) W (by omega) hP hn.2 hlx hy
  rw [textR_zero] at hc
  have HC := Lib.hid hc
  clear hP hb hl hy hc
  go_enter Tryz.func92, Tryz.ntmps92
  go_wp2_with (go_at_call 92; refine HC.out.mono ?_; rintro e w ⟨rfl, hm⟩)
  go_ret
  refine ⟨congrArg Ending.returned (congrArg Value.string ?_), hm⟩
  simp only [textR, needB, textB, ba_append, Bool.false_eq_true, if_false]
theorem fit_some {e : Ex} {lv d : Nat} (h : if levelB e < lv then d ≤ 12 ∧ Fit e (d + 1) else Fit e d) : ∃ d', Fit e d' := by
  split at h
  · exact ⟨_, h.2⟩
  · exact ⟨_, h⟩
theorem tx_un (a : Int) (op : List UInt8) {x : Ex} (hx : TxC x) : TxC (.un a op x) := by
  intro k v d W hk hP hn hl h
  simp only [ExAt, Fit] at h hn
  obtain ⟨y, ⟨g, rfl, _, hb⟩, hy⟩ := h
  obtain ⟨gy, rfl⟩ := hy.ptr
  have c0 : W.cell? ⟨g, 0, none⟩ = some (.int .i64 4) := hb.cell (i := 0) rfl
  have c4 : W.cell? ⟨g, 4, none⟩ = some (.string ⟨op.toArray⟩) := hb.cell (i := 4) rfl
  have c5 : W.cell? ⟨g, 5, none⟩ = some (.pointer (some ⟨gy, 0, none⟩)) := hb.cell (i := 5) rfl
  have hl0 := hl
  simp only [textB, List.length_append] at hl
  have hlx := paren_le (n := levelB x) (least := 6) (t := textB x) (k := 1000000000) (by omega)
  obtain ⟨d', hd'⟩ : ∃ d', Fit x d' := by
    have := hn.2.2
    split at this
    · exact ⟨_, this.2⟩
    · exact ⟨_, this⟩
  have HC := Lib.hid (fun (w : World) (hm : Mods None W w) => (by
    have := hx 6 _ d' w (by omega) (hP.next hm) hd' hlx (hy.mods hm)
    rwa [textR_at x (by omega)] at this : Calls Tryz.prog 92 #[.pointer (some ⟨gy, 0, none⟩), .int .i64 (6 : Nat)] w fun r w' => r = .returned (.string ⟨(paren (levelB x) 6 (textB x)).toArray⟩) ∧ Mods None w w'))
  have HT : Hid (textB (.un a op x) = op ++ paren (levelB x) 6 (textB x)) := Lib.hid (by simp only [textB])
  obtain ⟨t, ht⟩ : ∃ t, t = paren (levelB x) 6 (textB x) := ⟨_, rfl⟩
  rw [← ht] at HC HT hl
  have hlt : t.length ≤ 1000000000 := by omega
  have hlo : op.length ≤ 1000000000 := by omega
  have hq0 : ¬ 9223372036854775807 < op.length + t.length := by omega
  have hq1 : ¬ 9223372036854775807 < op.length + t.length + 1 := by omega
  have hq2 : ¬ 9223372036854775807 < op.length + t.length + 2 := by omega
  have HN : Hid (textR (.un a op x) k = if 6 < k then [40] ++ (op ++ t) ++ [41] else op ++ t) := Lib.hid (by
    unfold textR
    simp only [needB, decide_eq_true_eq]
    rw [HT.out])
  clear hP hb hy ht hlx hn hl hl0 hd'
  rw [HN.out]
  by_cases h6 : 6 < k
  · rw [if_pos h6]
    have h6i : (6 : Int) < (k : Int) := by omega
    go_enter Tryz.func92, Tryz.ntmps92
    go_wp2_with fail
    go_region_held3 (fun w' => Hid (Mods None W w') ∧ w'.cell? ⟨g, 4, none⟩ = some (.string ⟨op.toArray⟩) ∧ w'.cell? ⟨g, 5, none⟩ = some (.pointer (some ⟨gy, 0, none⟩)))
      (first
        | exact ⟨Lib.hid (Mods.refl _ _).drew, c4, c5⟩
        | assumption
        | (go_split_ands; exact ⟨Lib.hid (Mods.trans (Hid.out ‹_›) hm), hm.cellOf ‹_› (fun f => f), hm.cellOf ‹_› (fun f => f)⟩))
      ((first
        | (go_at_call 92; go_split_ands; refine (HC.out _ (Hid.out ‹Hid (Mods None W _)›)).mono ?_; rintro e w' ⟨rfl, hm⟩)))
    all_goals
      go_split_ands
      have HM4 : Hid (Mods None W w') := ‹Hid (Mods None W w')›
      clear hm
      go_wp2_with fail
      go_ret
      refine ⟨congrArg Ending.returned (congrArg Value.string ?_), HM4.out⟩
      first
        | (simp only [ba_append]; done)
        | (simp [ba_append])
  · rw [if_neg h6]
    have h6i : ¬ (6 : Int) < (k : Int) := by omega
    go_enter Tryz.func92, Tryz.ntmps92
    go_wp2_with fail
    go_region_held3 (fun w' => Hid (Mods None W w') ∧ w'.cell? ⟨g, 4, none⟩ = some (.string ⟨op.toArray⟩) ∧ w'.cell? ⟨g, 5, none⟩ = some (.pointer (some ⟨gy, 0, none⟩)))
      (first
        | exact ⟨Lib.hid (Mods.refl _ _).drew, c4, c5⟩
        | assumption
        | (go_split_ands; exact ⟨Lib.hid (Mods.trans (Hid.out ‹_›) hm), hm.cellOf ‹_› (fun f => f), hm.cellOf ‹_› (fun f => f)⟩))
      ((first
        | (go_at_call 92; go_split_ands; refine (HC.out _ (Hid.out ‹Hid (Mods None W _)›)).mono ?_; rintro e w' ⟨rfl, hm⟩)))
    all_goals
      go_split_ands
      have HM4 : Hid (Mods None W w') := ‹Hid (Mods None W w')›
      clear hm
      go_wp2_with fail
      go_ret
      refine ⟨congrArg Ending.returned (congrArg Value.string ?_), HM4.out⟩
      first
        | (simp only [ba_append]; done)
        | (simp [ba_append])
theorem text_item_eq (a : Int) (x i : Ex) : textB (.item a x i) = textR x 7 ++ [91] ++ textR i 0 ++ [93] := by
  rw [textR_seven, textR_zero]
  simp only [textB]
theorem tx_item (a : Int) {x i : Ex} (hx0 : TxC x) (hi0 : TxC i) : TxC (.item a x i) := by
  intro k v d W hk hP hn hl h
  rw [show textR (.item a x i) k = textB (.item a x i) by simp only [textR, needB, Bool.false_eq_true, if_false]]
  rw [text_item_eq] at hl ⊢
  simp only [ExAt, Fit] at h hn
  obtain ⟨xv, yv, ⟨g, rfl, _, hb⟩, hx, hy⟩ := h
  obtain ⟨gx, rfl⟩ := hx.ptr
  obtain ⟨gy, rfl⟩ := hy.ptr
  have c0 : W.cell? ⟨g, 0, none⟩ = some (.int .i64 8) := hb.cell (i := 0) rfl
  have c5 : W.cell? ⟨g, 5, none⟩ = some (.pointer (some ⟨gx, 0, none⟩)) := hb.cell (i := 5) rfl
  have c6 : W.cell? ⟨g, 6, none⟩ = some (.pointer (some ⟨gy, 0, none⟩)) := hb.cell (i := 6) rfl
  obtain ⟨dx, hdx⟩ : ∃ d', Fit x d' := by
    have := hn.2.1
    split at this
    · exact ⟨_, this⟩
    · split at this
      · exact ⟨_, this.2⟩
      · exact ⟨_, this⟩
  simp only [List.length_append] at hl
  have h1 := textR_len x 7
  have h2 := textR_len i 0
  have HL := Lib.hid (fun (w : World) (hm : Mods None W w) => hx0 7 _ dx w (by omega) (hP.next hm) hdx (by omega) (hx.mods hm))
  have HRR := Lib.hid (fun (w : World) (hm : Mods None W w) => hi0 0 _ _ w (by omega) (hP.next hm) hn.2.2 (by omega) (hy.mods hm))
  obtain ⟨tl, htl⟩ : ∃ t, t = textR x 7 := ⟨_, rfl⟩
  obtain ⟨tr, htr⟩ : ∃ t, t = textR i 0 := ⟨_, rfl⟩
  rw [← htl] at HL hl ⊢
  rw [← htr] at HRR hl ⊢
  have hlt : tl.length ≤ 1000000000 := by omega
  have hlr : tr.length ≤ 1000000000 := by omega
  have hq0 : ¬ 9223372036854775807 < tl.length + 1 := by omega
  have hq1 : ¬ 9223372036854775807 < tl.length + 1 + tr.length := by omega
  have hq2 : ¬ 9223372036854775807 < tl.length + 1 + tr.length + 1 := by omega
  clear hl hP hb hx hy htl htr hn h1 h2 hdx
  go_enter Tryz.func92, Tryz.ntmps92
  go_wp2_with fail
  go_region_held3 (fun w' => Hid (Mods None W w') ∧ w'.cell? ⟨g, 5, none⟩ = some (.pointer (some ⟨gx, 0, none⟩)) ∧ w'.cell? ⟨g, 6, none⟩ = some (.pointer (some ⟨gy, 0, none⟩)))
    (first
      | exact ⟨Lib.hid (Mods.refl _ _).drew, c5, c6⟩
      | assumption
      | (go_split_ands; exact ⟨Lib.hid (Mods.trans (Hid.out ‹_›) hm), hm.cellOf ‹_› (fun f => f), hm.cellOf ‹_› (fun f => f)⟩)
      | (go_split_ands; exact ⟨Lib.hid (Mods.trans (Hid.out ‹_›) hm2), hm2.cellOf ‹_› (fun f => f), hm2.cellOf ‹_› (fun f => f)⟩))
    ((first
      | (go_at_call_of 92 (Value.pointer (some ⟨gx, 0, none⟩)); go_split_ands; refine (HL.out _ (Hid.out ‹Hid (Mods None W _)›)).mono ?_; rintro e w' ⟨rfl, hm⟩)
      | (go_at_call_of 92 (Value.pointer (some ⟨gy, 0, none⟩)); go_split_ands; refine (HRR.out _ (Hid.out ‹Hid (Mods None W _)›)).mono ?_; rintro e w2 ⟨rfl, hm2⟩)))
  all_goals
    go_split_ands
    clear hm hm2
    go_wp2_with fail
    go_ret
    refine ⟨congrArg Ending.returned (congrArg Value.string ?_), Hid.out (by assumption)⟩
    first
      | (simp only [ba_append]; done)
      | (simp [ba_append])
theorem join_next (sep : List UInt8) : (L : List (List UInt8)) → (i : Nat) → (t : List UInt8) → L[i]? = some t → Lib.join (L.take (i + 1)) sep = if i = 0 then t else Lib.join (L.take i) sep ++ sep ++ t
  | [], i, t, h => by simp at h
  | a :: r, 0, t, h => by
    simp only [List.getElem?_cons_zero, Option.some.injEq] at h
    subst h
    simp [Lib.join]
  | [a], i + 1, t, h => by simp at h
  | a :: b :: r, i + 1, t, h => by
    have ih := join_next sep (b :: r) i t (by simpa using h)
    have hj : ∀ (q : List (List UInt8)), Lib.join (a :: b :: q) sep = a ++ sep ++ Lib.join (b :: q) sep := fun q => by simp [Lib.join, List.intercalate, List.intersperse]
    rw [if_neg (by omega)]
    cases i with
    | zero =>
      simp only [List.getElem?_cons_succ, List.getElem?_cons_zero, Option.some.injEq] at h
      subst h
      simp [Lib.join, List.intercalate, List.intersperse]
    | succ i =>
      rw [if_neg (by omega)] at ih
      simp only [List.take_succ_cons] at ih ⊢
      rw [hj, hj, ih]
      simp [List.append_assoc]
theorem join_part (sep : List UInt8) (L : List (List UInt8)) : (i : Nat) → i ≤ L.length → (Lib.join (L.take i) sep).length ≤ (Lib.join L sep).length
  | i, h => by
    obtain ⟨m, hm⟩ : ∃ m, m = L.length - i := ⟨_, rfl⟩
    induction m generalizing i with
    | zero => rw [show i = L.length by omega, List.take_length]; exact Nat.le_refl _
    | succ m ih =>
      have := ih (i + 1) (by omega) (by omega)
      rw [join_next sep L i (L[i]'(by omega)) (List.getElem?_eq_getElem (by omega))] at this
      split at this
      · subst i; simp [Lib.join]
      · simp only [List.length_append] at this; omega
theorem Fits.at_ {d : Nat} : {l : List Ex} → Fits l d → (i : Nat) → (e : Ex) → l[i]? = some e → Fit e d
  | [], h, i, e, he => by simp at he
  | a :: r, h, i, e, he => by
    simp only [Fits] at h
    cases i with
    | zero => simp only [List.getElem?_cons_zero, Option.some.injEq] at he; subst he; exact h.1
    | succ i => exact Fits.at_ h.2 i e (by simpa using he)
set_option maxRecDepth 100000 in
set_option maxHeartbeats 3200000 in
theorem tx_call (a : Int) (f : List UInt8) {args : List Ex} (hA : ∀ e ∈ args, TxC e) : TxC (.call a f args) := by
  intro k v d W hk hP hn hl h
  rw [show textR (.call a f args) k = textB (.call a f args) by simp only [textR, needB, Bool.false_eq_true, if_false]]
  simp only [ExAt, Fit] at h hn
  obtain ⟨xv, vs, ⟨g, rfl, _, hb⟩, hrow, hex⟩ := h
  have c0 : W.cell? ⟨g, 0, none⟩ = some (.int .i64 5) := hb.cell (i := 0) rfl
  have c3 : W.cell? ⟨g, 3, none⟩ = some (.string ⟨f.toArray⟩) := hb.cell (i := 3) rfl
  have c7 : W.cell? ⟨g, 7, none⟩ = some xv := hb.cell (i := 7) rfl
  simp only [textB] at hl ⊢
  simp only [List.length_append] at hl
  obtain ⟨L, hL⟩ : ∃ L, L = textsB args := ⟨_, rfl⟩
  have hLn : L.length = args.length := by rw [hL, textsB_len]
  have hlj : (Lib.join L [44, 32]).length ≤ 1000000000 := by rw [hL]; omega
  have hmany := join_many [44, 32] (by decide) L
  have HC := Lib.hid (fun (i : Nat) (e : Ex) (he : args[i]? = some e) (w : World) (hm : Mods None W w) => by
    obtain ⟨y, hy, hye⟩ := hex.at_ i e he
    have hle := join_ge [44, 32] L i (textB e) (by rw [hL]; exact textsB_at args i e he)
    have hc := hA e (List.mem_of_getElem? he) 0 y (d + 1) w (by omega) (hP.next hm) (Fits.at_ hn.2.2 i e he) (by omega) (hye.mods hm)
    rw [textR_zero] at hc
    exact (⟨y, hy, hye.ptr, hc⟩ : ∃ y, vs[i]? = some y ∧ (∃ g, y = .pointer (some ⟨g, 0, none⟩)) ∧ Calls Tryz.prog 92 #[y, .int .i64 0] w fun r w' => r = .returned (.string ⟨(textB e).toArray⟩) ∧ Mods None w w'))
  rw [← hL]
  have HAT := Lib.hid (fun (i : Nat) (hi : i < L.length) => by
    have hi2 : i < args.length := by omega
    have he := textsB_at args i _ (List.getElem?_eq_getElem hi2)
    rw [← hL] at he
    have h3 := join_part [44, 32] L (i + 1) (by omega)
    have h4 := join_next [44, 32] L i _ he
    rw [h4] at h3
    exact (⟨args[i], List.getElem?_eq_getElem hi2, h4, by split at h3 <;> simp_all <;> omega⟩ : ∃ e, args[i]? = some e ∧ Lib.join (L.take (i + 1)) [44, 32] = (if i = 0 then textB e else Lib.join (L.take i) [44, 32] ++ [44, 32] ++ textB e) ∧ (if i = 0 then (textB e).length ≤ 1000000000 else (Lib.join (L.take i) [44, 32]).length + 2 + (textB e).length ≤ 1000000000)))
  have hlf : f.length ≤ 1000000000 := by omega
  have hargs : args.length ≤ 1000000001 := by omega
  have HRC := Lib.hid (fun (i : Nat) (y : Value) (hy : vs[i]? = some y) => by
    rcases Go.Joins.ownsRow_forms hrow.1 with ⟨hxv, h0⟩ | ⟨q, cap, hxv⟩
    · exfalso
      have ha : args = [] := List.eq_nil_of_length_eq_zero (by omega)
      have hex2 := hex
      rw [ha] at hex2
      simp only [ExsAt] at hex2
      rw [hex2] at hy
      simp at hy
    · have hr := hrow.1
      rw [hxv] at hr
      have := hr.cells (g := q) rfl i y hy
      exact (⟨q, cap, hxv, by
        cases i with
        | zero => exact this
        | succ i => simpa [Addr.add] using this⟩ : ∃ q cap, xv = .slice (some ⟨q, 0, none⟩) args.length cap ∧ W.cell? ⟨q, i, none⟩ = some y))
  obtain ⟨oa, oc, rfl⟩ := lex_form hrow.1
  have HM0 := Lib.hid (Mods.refl None W)
  have HLN := Lib.hid hLn
  have HJL := Lib.hid (fun (i : Nat) (hi : i ≤ L.length) => Nat.le_trans (join_part [44, 32] L i hi) hlj)
  have hs0 : ¬ 9223372036854775807 < f.length + 1 := by omega
  clear hb hn hex hA hP hl hlj hmany hrow hL hLn
  go_enter Tryz.func92, Tryz.ntmps92
  go_wp2_with fail
  go_loopw [6, 7, 8, 91] (fun sv _ _ iv wr => ∃ i : Nat, i ≤ L.length ∧ sv = .string ⟨(f ++ [40] ++ Lib.join (L.take i) [44, 32]).toArray⟩ ∧ iv = .int .i64 i ∧ Hid (Mods None W wr)) (fun _ _ _ iv _ => (L.length - intOf iv).toNat)
  case atStart => exact ⟨0, Nat.zero_le _, by simp [ba_append, Lib.join], rfl, HM0⟩
  case round =>
    obtain ⟨i, hi, rfl, rfl, HM⟩ := hrel
    have hLA := HLN.out
    have hjl := HJL.out i hi
    obtain ⟨J, hJ⟩ : ∃ J, J = Lib.join (L.take i) [44, 32] := ⟨_, rfl⟩
    rw [← hJ] at hjl ⊢
    obtain ⟨T, hT⟩ : ∃ T, T = f ++ [40] ++ J := ⟨_, rfl⟩
    have hTl : T.length = f.length + 1 + J.length := by rw [hT]; simp; omega
    have hTb : T.length ≤ 2000000001 := by omega
    rw [← hT]
    have HTT := Lib.hid hT
    have HJJ := Lib.hid hJ
    by_cases hlt : i < L.length
    · obtain ⟨e, he1, he2, he3⟩ := HAT.out i hlt
      obtain ⟨y, hy, ⟨gy, rfl⟩, hcall⟩ := HC.out i e he1 wr HM.out
      obtain ⟨q, cap, hq, hcq⟩ := HRC.out i _ hy
      cases hq
      have hcy := HM.out.cellOf hcq (fun f => f)
      have HCL := Lib.hid hcall
      rw [← hJ] at he2 he3
      have HE2 := Lib.hid he2
      have hil : (i : Int) < (args.length : Int) := by omega
      clear hLA he1 hy hcall he2 hT hcq
      by_cases hi0 : i = 0
      · rw [if_pos hi0] at he3
        have hpos : ¬ (0 : Int) < (i : Int) := by omega
        have hq1 : ¬ 9223372036854775807 < T.length + (textB e).length := by omega
        have HI0 := Lib.hid hi0
        clear hJ hTl hi0
        go_wp2_with fail
        go_at_call 92
        refine HCL.out.mono ?_
        rintro r w4 ⟨rfl, hm4⟩
        have HM4 := Lib.hid (HM.out.trans hm4)
        clear hm4
        go_wp2_with fail
        refine ⟨⟨i + 1, by omega, ?_, by go_num, HM4⟩, by simp [intOf]; omega⟩
        have h2 := HE2.out
        rw [if_pos HI0.out] at h2
        have hJ0 : J = [] := by rw [HJJ.out, HI0.out]; simp [Lib.join]
        rw [h2, ba_append, HTT.out, hJ0]
        simp
      · rw [if_neg hi0] at he3
        have hpos : (0 : Int) < (i : Int) := by omega
        have hq0 : ¬ 9223372036854775807 < T.length + 2 := by omega
        have hq1 : ¬ 9223372036854775807 < T.length + 2 + (textB e).length := by omega
        clear hJ hTl
        go_wp2_with fail
        go_at_call 92
        refine HCL.out.mono ?_
        rintro r w4 ⟨rfl, hm4⟩
        have HM4 := Lib.hid (HM.out.trans hm4)
        clear hm4
        go_wp2_with fail
        refine ⟨⟨i + 1, by omega, ?_, by go_num, HM4⟩, by simp [intOf]; omega⟩
        have h2 := HE2.out
        rw [if_neg hi0] at h2
        rw [h2, HTT.out]
        simp [ba_append]
    · obtain rfl : i = L.length := by omega
      have hil : ¬ (L.length : Int) < (args.length : Int) := by omega
      have hq1 : ¬ 9223372036854775807 < T.length + 1 := by omega
      clear hLA hJ hTl hT
      go_wp2_with fail
      go_ret
      refine ⟨congrArg Ending.returned (congrArg Value.string ?_), HM.out⟩
      rw [HTT.out, HJJ.out, List.take_length]
      simp [ba_append]
theorem mark_in : ∀ k, k < 6 → ∀ m ∈ levelList.getD k [], m ∈ markList := by decide
theorem mark_two : ∀ m ∈ markList, m.length ≤ 2 := by decide
set_option maxRecDepth 100000 in
set_option maxHeartbeats 3200000 in
theorem tx_bin (a : Int) (op : List UInt8) {l r : Ex} (hl0 : TxC l) (hr0 : TxC r) : TxC (.bin a op l r) := by
  intro n v d W hk hP hn hl h
  simp only [ExAt, Fit] at h hn
  obtain ⟨x, y, ⟨g, rfl, _, hb⟩, hx, hy⟩ := h
  obtain ⟨gx, rfl⟩ := hx.ptr
  obtain ⟨gy, rfl⟩ := hy.ptr
  obtain ⟨⟨k, hk6, hop⟩, hn1, hn2⟩ := hn
  have hlv := level_of hk6 hop
  rw [hlv] at hn1 hn2
  obtain ⟨dl, hdl⟩ := fit_some hn1
  obtain ⟨dr, hdr⟩ := fit_some hn2
  have c0 : W.cell? ⟨g, 0, none⟩ = some (.int .i64 3) := hb.cell (i := 0) rfl
  have c4 : W.cell? ⟨g, 4, none⟩ = some (.string ⟨op.toArray⟩) := hb.cell (i := 4) rfl
  have c5 : W.cell? ⟨g, 5, none⟩ = some (.pointer (some ⟨gx, 0, none⟩)) := hb.cell (i := 5) rfl
  have c6 : W.cell? ⟨g, 6, none⟩ = some (.pointer (some ⟨gy, 0, none⟩)) := hb.cell (i := 6) rfl
  have hm := mark_in k hk6 op hop
  have h2 := mark_two op hm
  have HCN := Lib.hid (fun (i : Nat) (hi : i < 6) => (by
    by_cases hik : i = k
    · subst hik
      exact (Or.inl ⟨rfl, List.contains_iff_mem.2 hop⟩)
    · refine Or.inr ⟨hik, ?_⟩
      cases hc : (levelList.getD i []).contains op
      · rfl
      · exact absurd ((level_of hi (List.contains_iff_mem.1 hc)).symm.trans hlv) hik : (i = k ∧ (levelList.getD i []).contains op = true) ∨ (i ≠ k ∧ (levelList.getD i []).contains op = false)))
  have HCAT := Lib.hid (fun (i : Nat) (hi : i < 6) (w : World) (hw : Mods None W w) => level_cat op i w.heap.size hi hm w (hP.next hw).most)
  have HMK := Lib.hid (fun (i : Nat) (hi : i < 6) (w : World) => marks_any i hi w)
  have HTB : Hid (textB (.bin a op l r) = textR l k ++ [32] ++ op ++ [32] ++ textR r (k + 1)) := Lib.hid (by
    rw [textR_at l (by omega), textR_at r (by omega)]
    simp only [textB, hlv])
  have HTR : Hid (textR (.bin a op l r) n = if k < n then [40] ++ textB (.bin a op l r) ++ [41] else textB (.bin a op l r)) := Lib.hid (by
    unfold textR
    simp only [needB, hlv, decide_eq_true_eq])
  rw [HTB.out] at hl
  simp only [List.length_append] at hl
  have h3 := textR_len l k
  have h4 := textR_len r (k + 1)
  have HL := Lib.hid (fun (w : World) (hm : Mods None W w) => hl0 k _ dl w (by omega) (hP.next hm) hdl (by omega) (hx.mods hm))
  have HRR := Lib.hid (fun (w : World) (hm : Mods None W w) => hr0 (k + 1) _ dr w (by omega) (hP.next hm) hdr (by omega) (hy.mods hm))
  rw [HTB.out] at HTR
  obtain ⟨tl, htl⟩ : ∃ t, t = textR l k := ⟨_, rfl⟩
  obtain ⟨tr, htr⟩ : ∃ t, t = textR r (k + 1) := ⟨_, rfl⟩
  rw [← htl] at HL hl HTR
  rw [← htr] at HRR hl HTR
  rw [HTR.out]
  have hq0 : ¬ 9223372036854775807 < tl.length + 1 := by omega
  have hq1 : ¬ 9223372036854775807 < tl.length + 1 + op.length := by omega
  have hq2 : ¬ 9223372036854775807 < tl.length + 1 + op.length + 1 := by omega
  have hq3 : ¬ 9223372036854775807 < tl.length + 1 + op.length + 1 + tr.length := by omega
  have hs2 : ¬ 9223372036854775807 < op.length + 2 := by omega
  have hs3 : ¬ 9223372036854775807 < op.length + 1 := by omega
  have hb1 : tl.length + 1 + op.length + 1 + tr.length ≤ 1000000002 := by omega
  have HM0 := Lib.hid (Mods.refl None W)
  clear hl hP hb hx hy htl htr h3 h4 hn1 hn2 hdl hdr hlv hop hm HTB
  go_enter Tryz.func92, Tryz.ntmps92
  go_wp2_with fail
  go_loopw [9] (fun iv wr => ∃ i : Nat, i ≤ k ∧ iv = .int .i64 i ∧ Hid (Mods None W wr)) (fun iv _ => (k - intOf iv).toNat)
  case atStart => exact ⟨0, Nat.zero_le _, rfl, HM0⟩
  case round =>
    obtain ⟨i, hi, rfl, HM⟩ := hrel
    have HW := Lib.hid (fun (w : World) (hm : Mods None wr w) => HM.out.trans hm)
    have HCi := Lib.hid (fun (j : Nat) => (HCAT.out i (by omega) (wr.drewN j) (HM.out.drewN j)).mono fun (e : Ending) (w : World) ⟨h1, h2⟩ => (⟨h1, j, h2.symm⟩ : e = Ending.returned (.bool ((levelList.getD i []).contains op)) ∧ ∃ m, w = wr.drewN m))
    have HKi := Lib.hid (fun (j : Nat) => (HMK.out i (by omega) (wr.drewN j)).mono fun (e : Ending) (w : World) ⟨h1, h2⟩ => (⟨h1, j, h2.symm⟩ : e = Ending.returned (.string ⟨(levelText i).toArray⟩) ∧ ∃ m, w = wr.drewN m))
    have d4 := HM.out.cellOf c4 (fun f => f)
    rcases HCN.out i (by omega) with ⟨rfl, hcn⟩ | ⟨hne, hcn⟩
    · rw [hcn] at HCi
      clear hcn
      go_wp2_with fail
      go_quiet ((first | (go_at_call 123; exact HKi.out _) | (go_at_call 22; exact HCi.out _)))
      have hki : IntKind.i64.wrap ((i : Int) + 1) = ((i + 1 : Nat) : Int) := by rw [IntWalk.i64_in _ (by omega)]; omega
      have HMD := Lib.hid (HM.out.drewN nq)
      clear d4
      obtain ⟨w1, hw1⟩ : ∃ q, q = wr.drewN nq := ⟨_, rfl⟩
      rw [← hw1] at HMD ⊢
      clear hw1 HCi HKi HW
      have d4 := HMD.out.cellOf c4 (fun f => f)
      have d5 := HMD.out.cellOf c5 (fun f => f)
      have d6 := HMD.out.cellOf c6 (fun f => f)
      clear c0 c4 c5 c6
      by_cases hin : i < n
      · have hini : (i : Int) < (n : Int) := by omega
        have hq4 : ¬ 9223372036854775807 < tl.length + 1 + op.length + 1 + tr.length + 1 := by omega
        have hq5 : ¬ 9223372036854775807 < tl.length + 1 + op.length + 1 + tr.length + 2 := by omega
        go_wp2_with fail
        go_region_held3 (fun w' => Hid (Mods None W w') ∧ w'.cell? ⟨g, 4, none⟩ = some (.string ⟨op.toArray⟩) ∧ w'.cell? ⟨g, 5, none⟩ = some (.pointer (some ⟨gx, 0, none⟩)) ∧ w'.cell? ⟨g, 6, none⟩ = some (.pointer (some ⟨gy, 0, none⟩)))
          (first
            | exact ⟨Lib.hid HMD.out.drew, d4, d5, d6⟩
            | assumption
            | (go_split_ands; exact ⟨Lib.hid (Mods.trans (Hid.out ‹_›) hm), hm.cellOf ‹_› (fun f => f), hm.cellOf ‹_› (fun f => f), hm.cellOf ‹_› (fun f => f)⟩)
            | (go_split_ands; exact ⟨Lib.hid (Mods.trans (Hid.out ‹_›) hm2), hm2.cellOf ‹_› (fun f => f), hm2.cellOf ‹_› (fun f => f), hm2.cellOf ‹_› (fun f => f)⟩))
          ((first
            | (go_at_call_of 92 (Value.pointer (some ⟨gx, 0, none⟩)); go_split_ands; refine (HL.out _ (Hid.out ‹Hid (Mods None W _)›)).mono ?_; rintro e w' ⟨rfl, hm⟩)
            | (go_at_call_of 92 (Value.pointer (some ⟨gy, 0, none⟩)); go_split_ands; refine (HRR.out _ (Hid.out ‹Hid (Mods None W _)›)).mono ?_; rintro e w2 ⟨rfl, hm2⟩)))
        all_goals
          go_split_ands
          clear hm hm2
          go_wp2_with fail
          go_ret
          refine ⟨congrArg Ending.returned (congrArg Value.string ?_), Hid.out (by assumption)⟩
          first
            | (simp only [ba_append]; done)
            | (simp [ba_append])
      · have hini : ¬ (i : Int) < (n : Int) := by omega
        go_wp2_with fail
        go_region_held3 (fun w' => Hid (Mods None W w') ∧ w'.cell? ⟨g, 4, none⟩ = some (.string ⟨op.toArray⟩) ∧ w'.cell? ⟨g, 5, none⟩ = some (.pointer (some ⟨gx, 0, none⟩)) ∧ w'.cell? ⟨g, 6, none⟩ = some (.pointer (some ⟨gy, 0, none⟩)))
          (first
            | exact ⟨Lib.hid HMD.out.drew, d4, d5, d6⟩
            | assumption
            | (go_split_ands; exact ⟨Lib.hid (Mods.trans (Hid.out ‹_›) hm), hm.cellOf ‹_› (fun f => f), hm.cellOf ‹_› (fun f => f), hm.cellOf ‹_› (fun f => f)⟩)
            | (go_split_ands; exact ⟨Lib.hid (Mods.trans (Hid.out ‹_›) hm2), hm2.cellOf ‹_› (fun f => f), hm2.cellOf ‹_› (fun f => f), hm2.cellOf ‹_› (fun f => f)⟩))
          ((first
            | (go_at_call_of 92 (Value.pointer (some ⟨gx, 0, none⟩)); go_split_ands; refine (HL.out _ (Hid.out ‹Hid (Mods None W _)›)).mono ?_; rintro e w' ⟨rfl, hm⟩)
            | (go_at_call_of 92 (Value.pointer (some ⟨gy, 0, none⟩)); go_split_ands; refine (HRR.out _ (Hid.out ‹Hid (Mods None W _)›)).mono ?_; rintro e w2 ⟨rfl, hm2⟩)))
        all_goals
          go_split_ands
          clear hm hm2
          go_wp2_with fail
          go_ret
          refine ⟨congrArg Ending.returned (congrArg Value.string ?_), Hid.out (by assumption)⟩
          first
            | (simp only [ba_append]; done)
            | (simp [ba_append])
    · rw [hcn] at HCi
      have hlt : i < k := by omega
      clear hcn
      go_wp2_with fail
      go_quiet ((first | (go_at_call 123; exact HKi.out _) | (go_at_call 22; exact HCi.out _)))
      go_wp2_with fail
      exact ⟨⟨i + 1, by omega, by go_num, Lib.hid (HM.out.drewN _)⟩, by simp [intOf]; omega⟩
mutual
theorem tx_any : (e : Ex) → TxC e
  | .num a n => tx_num a n
  | .var a s => tx_var a s
  | .bin a op l r => tx_bin a op (tx_any l) (tx_any r)
  | .un a op x => tx_un a op (tx_any x)
  | .call a f args => tx_call a f (txs_any args)
  | .new a x => tx_new a (tx_any x)
  | .len a x => tx_len a (tx_any x)
  | .item a x i => tx_item a (tx_any x) (tx_any i)
  | .input a => tx_input a
theorem txs_any : (l : List Ex) → ∀ e ∈ l, TxC e
  | [], e, h => by cases h
  | a :: r, e, h => by
    rcases List.mem_cons.1 h with he | h
    · rw [he]; exact tx_any a
    · exact txs_any r e h
end
end Go.Proofs.YtdgedlhefjmcpaaGreatDoor.TreeP.R

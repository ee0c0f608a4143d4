/- Expressions are written. Conditions: what is read of the package's variables lies. -/
import Derived.Test.YtinbahmpifokaaaDoorTreeLevel
import Derived.Test.YtinbahmpifokaaaDoorTreeRow
import Derived.Test.YtinbahmpifokaaaDoorShelf
import Derived.Deep.RegionHeld3
namespace Go.Proofs.YtinbahmpifokaaaDoor.TreeP
open Go.RowKit Go.Proofs.YtinbahmpifokaaaDoor.Wo
set_option linter.unusedVariables false
set_option linter.unusedSimpArgs false
def PowTab (W : World) : Prop := Lib.TabIs Tryd.prog W "internal/strconv.uint64pow10" .u64 Lib.pow10Tab
theorem tab_next {P : Program} {name : String} {k : IntKind} {zs : List Int} {W W' : World} (h : Lib.TabIs P W name k zs) (hm : Mods None W W') : Lib.TabIs P W' name k zs := by
  unfold Lib.TabIs World.var? at *
  cases hg : P.globalNamed name with
  | none => simp [hg] at h
  | some g =>
    simp only [hg, Option.bind_some] at h ⊢
    cases hb : W.heap[g]? with
    | none => rw [hb] at h; simp at h
    | some o =>
      rw [hm.blockOf hb (fun f => f)]
      rw [hb] at h
      exact h
/-- What writing reads. -/
structure Prn (W : World) : Prop where
  lev : ∃ n, Levels W n
  pow : PowTab W
theorem Prn.next {W W' : World} (h : Prn W) (hm : Mods None W W') : Prn W' := by
  obtain ⟨n, hn⟩ := h.lev
  exact ⟨⟨n, hn.far hm (fun _ f => f.elim)⟩, tab_next h.pow hm⟩
theorem grow_mods (w : World) (k : Nat) (os : Array Obj) : Mods None w (Go.«Sort».grow (w.drewN k) os) := by
  refine ⟨rfl, rfl, ?_, fun i hi _ => ?_⟩
  · simp [Go.«Sort».grow, World.drewN]
  · simp [Go.«Sort».grow, World.drewN, Array.getElem?_append, hi]
def TextC (e : Ex) : Prop := ∀ (v : Value) (W : World), Prn W → NumE e → (textB e).length ≤ 1000000000 → ExAt W None e v →
  Calls Tryd.prog 27 #[v] W fun r w => r = .returned (.string ⟨(textB e).toArray⟩) ∧ Mods None W w
theorem text_num (a n : Int) : TextC (.num a n) := by
  intro v W hP hn hl h
  simp only [ExAt, NumE] at h hn
  obtain ⟨g, rfl, _, hb⟩ := h
  have c0 : W.cell? ⟨g, 0, none⟩ = some (.int .i64 1) := hb.cell (i := 0) rfl
  have c2 : W.cell? ⟨g, 2, none⟩ = some (.int .i64 n) := hb.cell (i := 2) rfl
  have HC := Lib.hid (Tryd.strconv_FormatInt_10 n (by omega) (by omega) W hP.pow)
  clear hP hb hl
  go_enter Tryd.func27, Tryd.ntmps27
  go_wp2_with (go_at_call 40; refine HC.out.mono ?_; rintro e w ⟨rfl, k, os, rfl⟩)
  go_ret
  exact ⟨by simp only [textB]; rfl, grow_mods W k os⟩
theorem text_var (a : Int) (s : List UInt8) : TextC (.var a s) := by
  intro v W hP hn hl h
  simp only [ExAt] at h
  obtain ⟨g, rfl, _, hb⟩ := h
  have c0 : W.cell? ⟨g, 0, none⟩ = some (.int .i64 2) := hb.cell (i := 0) rfl
  have c3 : W.cell? ⟨g, 3, none⟩ = some (.string ⟨s.toArray⟩) := hb.cell (i := 3) rfl
  clear hP hb hl
  go_enter Tryd.func27, Tryd.ntmps27
  go_wp2
  go_ret
  exact ⟨by simp only [textB]; rfl, Mods.refl _ _⟩
theorem text_input (a : Int) : TextC (.input a) := by
  intro v W hP hn hl h
  simp only [ExAt] at h
  obtain ⟨g, rfl, _, hb⟩ := h
  have c0 : W.cell? ⟨g, 0, none⟩ = some (.int .i64 9) := hb.cell (i := 0) rfl
  clear hP hb hl
  go_enter Tryd.func27, Tryd.ntmps27
  go_wp2
  go_ret
  exact ⟨by simp only [textB]; rfl, Mods.refl _ _⟩
theorem ba_append (a b : List UInt8) : (⟨a.toArray⟩ : ByteArray) ++ ⟨b.toArray⟩ = ⟨(a ++ b).toArray⟩ := by
  apply ByteArray.ext
  simp
theorem text_new (a : Int) {x : Ex} (hx : TextC x) : TextC (.new a x) := by
  intro v W hP hn hl h
  simp only [ExAt, NumE] at h hn
  obtain ⟨y, ⟨g, rfl, _, hb⟩, hy⟩ := h
  obtain ⟨gy, rfl⟩ := hy.ptr
  have c0 : W.cell? ⟨g, 0, none⟩ = some (.int .i64 6) := hb.cell (i := 0) rfl
  have c5 : W.cell? ⟨g, 5, none⟩ = some (.pointer (some ⟨gy, 0, none⟩)) := hb.cell (i := 5) rfl
  have hlx : (textB x).length ≤ 1000000000 := by simp only [textB, List.length_append] at hl; omega
  have HC := Lib.hid (hx _ W hP hn hlx hy)
  clear hP hb hl hy
  go_enter Tryd.func27, Tryd.ntmps27
  go_wp2_with (go_at_call 27; refine HC.out.mono ?_; rintro e w ⟨rfl, hm⟩)
  go_ret
  refine ⟨congrArg Ending.returned (congrArg Value.string ?_), hm⟩
  simp only [textB, ba_append]
theorem text_len (a : Int) {x : Ex} (hx : TextC x) : TextC (.len a x) := by
  intro v W hP hn hl h
  simp only [ExAt, NumE] at h hn
  obtain ⟨y, ⟨g, rfl, _, hb⟩, hy⟩ := h
  obtain ⟨gy, rfl⟩ := hy.ptr
  have c0 : W.cell? ⟨g, 0, none⟩ = some (.int .i64 7) := hb.cell (i := 0) rfl
  have c5 : W.cell? ⟨g, 5, none⟩ = some (.pointer (some ⟨gy, 0, none⟩)) := hb.cell (i := 5) rfl
  have hlx : (textB x).length ≤ 1000000000 := by simp only [textB, List.length_append] at hl; omega
  have HC := Lib.hid (hx _ W hP hn hlx hy)
  clear hP hb hl hy
  go_enter Tryd.func27, Tryd.ntmps27
  go_wp2_with (go_at_call 27; refine HC.out.mono ?_; rintro e w ⟨rfl, hm⟩)
  go_ret
  refine ⟨congrArg Ending.returned (congrArg Value.string ?_), hm⟩
  simp only [textB, ba_append]
def AtC (e : Ex) : Prop := ∀ (v : Value) (least : Nat) (W : World), Prn W → NumE e → least ≤ 6 → (textB e).length ≤ 1000000000 → ExAt W None e v →
  Calls Tryd.prog 42 #[v, .int .i64 least] W fun r w => r = .returned (.string ⟨(paren (levelB e) least (textB e)).toArray⟩) ∧ Mods None W w
theorem lvlFrom_le : (L : List (List (List UInt8))) → (i : Nat) → (op : List UInt8) → lvlFrom L i op = 0 ∨ lvlFrom L i op < i + L.length
  | [], i, op => Or.inl rfl
  | l :: r, i, op => by
    simp only [lvlFrom]
    split
    · exact Or.inr (by simp)
    · rcases lvlFrom_le r (i + 1) op with h | h
      · exact Or.inl h
      · exact Or.inr (by simp only [List.length_cons]; omega)
theorem levelB_le (e : Ex) : levelB e ≤ 6 := by
  cases e <;> simp only [levelB] <;> try exact Nat.le_refl _
  rename_i op _ _
  have := lvlFrom_le levelList 0 op
  have h6 : levelList.length = 6 := rfl
  omega
theorem at_of {e : Ex} (hx : TextC e) : AtC e := by
  intro v least W hP hn hl6 hl h
  obtain ⟨g, rfl⟩ := h.ptr
  have HC := Lib.hid (fun (w : World) (hm : Mods None W w) => hx _ w (hP.next hm) hn hl (h.mods hm))
  obtain ⟨n, hL⟩ := hP.lev
  have HV := Lib.hid (fun (w : World) (hm : Mods None W w) => level_any (n := n) (hL.far hm (fun _ f => f.elim)) (h.mods hm))
  have hlv := levelB_le e
  obtain ⟨lv, hlve⟩ : ∃ lv, lv = levelB e := ⟨_, rfl⟩
  obtain ⟨t, ht⟩ : ∃ t, t = textB e := ⟨_, rfl⟩
  rw [← hlve] at HV hlv ⊢
  rw [← ht] at HC hl ⊢
  clear hP h hL hn hlve ht
  by_cases hle : least ≤ lv
  · have hlei : (least : Int) ≤ (lv : Int) := by omega
    have hp : Hid (paren lv least t = t) := Lib.hid (by unfold paren; rw [if_pos hle])
    clear hle
    go_enter Tryd.func42, Tryd.ntmps42
    go_wp2_with (first | (go_at_call 41; refine (HV.out _ hm).mono ?_; rintro e w ⟨rfl, rfl⟩) | (go_at_call 27; refine (HC.out _ (Mods.refl _ _)).mono ?_; rintro e w ⟨rfl, hm⟩))
    go_ret
    rw [hp.out]
    exact ⟨rfl, hm⟩
  · have hlei : ¬ (least : Int) ≤ (lv : Int) := by omega
    have hp : Hid (paren lv least t = [40] ++ t ++ [41]) := Lib.hid (by unfold paren; rw [if_neg hle])
    clear hle
    go_enter Tryd.func42, Tryd.ntmps42
    go_wp2_with fail
    go_at_call 27
    refine (HC.out _ (Mods.refl _ _)).mono ?_
    rintro e w ⟨rfl, hm⟩
    go_wp2_with fail
    go_at_call 41
    refine (HV.out _ hm).mono ?_
    rintro e w2 ⟨rfl, rfl⟩
    go_wp2_with fail
    go_at_call 27
    refine (HC.out _ hm).mono ?_
    rintro e w3 ⟨rfl, hm3⟩
    go_wp2_with fail
    go_ret
    refine ⟨congrArg Ending.returned (congrArg Value.string ?_), hm.trans hm3⟩
    rw [hp.out]
    try simp only [ba_append]
theorem text_un (a : Int) (op : List UInt8) {x : Ex} (hx : AtC x) : TextC (.un a op x) := by
  intro v W hP hn hl h
  simp only [ExAt, NumE] at h hn
  obtain ⟨y, ⟨g, rfl, _, hb⟩, hy⟩ := h
  obtain ⟨gy, rfl⟩ := hy.ptr
  have c0 : W.cell? ⟨g, 0, none⟩ = some (.int .i64 4) := hb.cell (i := 0) rfl
  have c4 : W.cell? ⟨g, 4, none⟩ = some (.string ⟨op.toArray⟩) := hb.cell (i := 4) rfl
  have c5 : W.cell? ⟨g, 5, none⟩ = some (.pointer (some ⟨gy, 0, none⟩)) := hb.cell (i := 5) rfl
  simp only [textB, List.length_append] at hl
  have hlx : (textB x).length ≤ 1000000000 := by
    unfold paren at hl
    split at hl
    · omega
    · simp only [List.length_append] at hl; omega
  have HC := Lib.hid (fun (w : World) (hm : Mods None W w) => hx _ 6 w (hP.next hm) hn (by omega) hlx (hy.mods hm))
  simp only [textB]
  obtain ⟨t, ht⟩ : ∃ t, t = paren (levelB x) 6 (textB x) := ⟨_, rfl⟩
  rw [← ht] at HC hl ⊢
  have hlt : t.length ≤ 1000000000 := by omega
  have hlo : op.length ≤ 1000000000 := by omega
  have hq0 : ¬ 9223372036854775807 < op.length + t.length := by omega
  clear hP hb hy ht hlx hn hl
  go_enter Tryd.func27, Tryd.ntmps27
  go_wp2_with fail
  go_region_held3 (fun w' => Hid (Mods None W w') ∧ w'.cell? ⟨g, 4, none⟩ = some (.string ⟨op.toArray⟩) ∧ w'.cell? ⟨g, 5, none⟩ = some (.pointer (some ⟨gy, 0, none⟩)))
    (first
      | exact ⟨Lib.hid (Mods.refl _ _).drew, c4, c5⟩
      | assumption
      | (go_split_ands; exact ⟨Lib.hid (Mods.trans (Hid.out ‹_›) hm), hm.cellOf ‹_› (fun f => f), hm.cellOf ‹_› (fun f => f)⟩))
    ((first
      | (go_at_call 42; go_split_ands; refine (HC.out _ (Hid.out ‹Hid (Mods None W _)›)).mono ?_; rintro e w' ⟨rfl, hm⟩)))
  all_goals
    go_split_ands
    have HM4 : Hid (Mods None W w') := ‹Hid (Mods None W w')›
    clear hm
    go_wp2_with fail
    go_ret
    refine ⟨congrArg Ending.returned (congrArg Value.string ?_), HM4.out⟩
    first
      | (simp only [ba_append]; done)
      | (simp [ba_append])
theorem paren_le {n least : Nat} {t : List UInt8} {k : Nat} (h : (paren n least t).length ≤ k) : t.length ≤ k := by
  unfold paren at h
  split at h
  · exact h
  · simp only [List.length_append] at h; omega
theorem text_bin (a : Int) (op : List UInt8) {l r : Ex} (hl0 : AtC l) (hr0 : AtC r) : TextC (.bin a op l r) := by
  intro v W hP hn hl h
  have hV := fun (n : Nat) (hL : Levels W n) => level_any hL h
  simp only [ExAt, NumE] at h hn
  obtain ⟨x, y, ⟨g, rfl, _, hb⟩, hx, hy⟩ := h
  obtain ⟨gx, rfl⟩ := hx.ptr
  obtain ⟨gy, rfl⟩ := hy.ptr
  have c0 : W.cell? ⟨g, 0, none⟩ = some (.int .i64 3) := hb.cell (i := 0) rfl
  have c4 : W.cell? ⟨g, 4, none⟩ = some (.string ⟨op.toArray⟩) := hb.cell (i := 4) rfl
  have c5 : W.cell? ⟨g, 5, none⟩ = some (.pointer (some ⟨gx, 0, none⟩)) := hb.cell (i := 5) rfl
  have c6 : W.cell? ⟨g, 6, none⟩ = some (.pointer (some ⟨gy, 0, none⟩)) := hb.cell (i := 6) rfl
  obtain ⟨n, hL⟩ := hP.lev
  have HV := Lib.hid (hV n hL)
  simp only [levelB] at HV
  simp only [textB] at hl ⊢
  obtain ⟨k, hk⟩ : ∃ k, k = lvlFrom levelList 0 op := ⟨_, rfl⟩
  have hk5 : k ≤ 5 := by
    have := lvlFrom_le levelList 0 op
    have h6 : levelList.length = 6 := rfl
    omega
  rw [← hk] at HV hl ⊢
  simp only [List.length_append] at hl
  have h1 := paren_le (n := levelB l) (least := k) (t := textB l) (k := 1000000000) (by omega)
  have h2 := paren_le (n := levelB r) (least := k + 1) (t := textB r) (k := 1000000000) (by omega)
  have HL := Lib.hid (fun (w : World) (hm : Mods None W w) => hl0 _ k w (hP.next hm) hn.1 (by omega) h1 (hx.mods hm))
  have HRR := Lib.hid (fun (w : World) (hm : Mods None W w) => hr0 _ (k + 1) w (hP.next hm) hn.2 (by omega) h2 (hy.mods hm))
  obtain ⟨tl, htl⟩ : ∃ t, t = paren (levelB l) k (textB l) := ⟨_, rfl⟩
  obtain ⟨tr, htr⟩ : ∃ t, t = paren (levelB r) (k + 1) (textB r) := ⟨_, rfl⟩
  rw [← htl] at HL hl ⊢
  rw [← htr] at HRR hl ⊢
  have hlt : tl.length ≤ 1000000000 := by omega
  have hlr : tr.length ≤ 1000000000 := by omega
  have hlo : op.length ≤ 1000000000 := by omega
  have hq0 : ¬ 9223372036854775807 < tl.length + 1 := by omega
  have hq1 : ¬ 9223372036854775807 < tl.length + 1 + op.length := by omega
  have hq2 : ¬ 9223372036854775807 < tl.length + 1 + op.length + 1 := by omega
  have hq3 : ¬ 9223372036854775807 < tl.length + 1 + op.length + 1 + tr.length := by omega
  clear hl
  have hki : IntKind.i64.wrap ((k : Int) + 1) = ((k + 1 : Nat) : Int) := by rw [IntWalk.i64_in _ (by omega)]; omega
  clear hV hP hb hx hy htl htr h1 h2 hn hL hk
  go_enter Tryd.func27, Tryd.ntmps27
  go_wp2_with fail
  go_at_call 41
  refine HV.out.mono ?_
  rintro e w ⟨rfl, rfl⟩
  go_wp2_with fail
  go_region_held3 (fun w' => Hid (Mods None W w') ∧ w'.cell? ⟨g, 4, none⟩ = some (.string ⟨op.toArray⟩) ∧ w'.cell? ⟨g, 5, none⟩ = some (.pointer (some ⟨gx, 0, none⟩)) ∧ w'.cell? ⟨g, 6, none⟩ = some (.pointer (some ⟨gy, 0, none⟩)))
    (first
      | exact ⟨Lib.hid (Mods.refl _ _).drew, c4, c5, c6⟩
      | assumption
      | (go_split_ands; exact ⟨Lib.hid (Mods.trans (Hid.out ‹_›) hm), hm.cellOf ‹_› (fun f => f), hm.cellOf ‹_› (fun f => f), hm.cellOf ‹_› (fun f => f)⟩)
      | (go_split_ands; exact ⟨Lib.hid (Mods.trans (Hid.out ‹_›) hm2), hm2.cellOf ‹_› (fun f => f), hm2.cellOf ‹_› (fun f => f), hm2.cellOf ‹_› (fun f => f)⟩))
    ((first
      | (go_at_call_of 42 (Value.pointer (some ⟨gx, 0, none⟩)); go_split_ands; refine (HL.out _ (Hid.out ‹Hid (Mods None W _)›)).mono ?_; rintro e w' ⟨rfl, hm⟩)
      | (go_at_call_of 42 (Value.pointer (some ⟨gy, 0, none⟩)); go_split_ands; refine (HRR.out _ (Hid.out ‹Hid (Mods None W _)›)).mono ?_; rintro e w2 ⟨rfl, hm2⟩)))
  all_goals
    go_split_ands
    clear hm hm2
    go_wp2_with fail
    go_ret
    refine ⟨congrArg Ending.returned (congrArg Value.string ?_), Hid.out (by assumption)⟩
    first
      | (simp only [ba_append]; done)
      | (simp [ba_append])
theorem text_item_un (a : Int) {x i : Ex} (hu : isUn x = true) (hx0 : TextC x) (hi0 : TextC i) : TextC (.item a x i) := by
  intro v W hP hn hl h
  simp only [ExAt, NumE] at h hn
  obtain ⟨xv, yv, ⟨g, rfl, _, hb⟩, hx, hy⟩ := h
  obtain ⟨gx, rfl, hcx⟩ := hx.code
  obtain ⟨gy, rfl⟩ := hy.ptr
  have c0 : W.cell? ⟨g, 0, none⟩ = some (.int .i64 8) := hb.cell (i := 0) rfl
  have c5 : W.cell? ⟨g, 5, none⟩ = some (.pointer (some ⟨gx, 0, none⟩)) := hb.cell (i := 5) rfl
  have c6 : W.cell? ⟨g, 6, none⟩ = some (.pointer (some ⟨gy, 0, none⟩)) := hb.cell (i := 6) rfl
  simp only [textB, hu, ↓reduceIte] at hl ⊢
  simp only [List.length_append] at hl
  have hcx2 : codeB x = 4 := by cases x <;> first | rfl | (simp [isUn] at hu)
  rw [hcx2] at hcx
  have HL := Lib.hid (fun (w : World) (hm : Mods None W w) => hx0 _ w (hP.next hm) hn.1 (by omega) (hx.mods hm))
  have HRR := Lib.hid (fun (w : World) (hm : Mods None W w) => hi0 _ w (hP.next hm) hn.2 (by omega) (hy.mods hm))
  obtain ⟨tl, htl⟩ : ∃ t, t = textB x := ⟨_, rfl⟩
  obtain ⟨tr, htr⟩ : ∃ t, t = textB i := ⟨_, rfl⟩
  rw [← htl] at HL hl ⊢
  rw [← htr] at HRR hl ⊢
  have hlt : tl.length ≤ 1000000000 := by omega
  have hlr : tr.length ≤ 1000000000 := by omega
  have hq0 : ¬ 9223372036854775807 < 1 + tl.length := by omega
  have hq1 : ¬ 9223372036854775807 < 1 + tl.length + 2 := by omega
  have hq2 : ¬ 9223372036854775807 < 1 + tl.length + 2 + tr.length := by omega
  have hq3 : ¬ 9223372036854775807 < 1 + tl.length + 2 + tr.length + 1 := by omega
  clear hl hP hb hx hy htl htr hn hu hcx2
  go_enter Tryd.func27, Tryd.ntmps27
  go_wp2_with fail
  go_region_held3 (fun w' => Hid (Mods None W w') ∧ w'.cell? ⟨g, 5, none⟩ = some (.pointer (some ⟨gx, 0, none⟩)) ∧ w'.cell? ⟨g, 6, none⟩ = some (.pointer (some ⟨gy, 0, none⟩)))
    (first
      | exact ⟨Lib.hid (Mods.refl _ _).drew, c5, c6⟩
      | assumption
      | (go_split_ands; exact ⟨Lib.hid (Mods.trans (Hid.out ‹_›) hm), hm.cellOf ‹_› (fun f => f), hm.cellOf ‹_› (fun f => f)⟩)
      | (go_split_ands; exact ⟨Lib.hid (Mods.trans (Hid.out ‹_›) hm2), hm2.cellOf ‹_› (fun f => f), hm2.cellOf ‹_› (fun f => f)⟩))
    ((first
      | (go_at_call_of 27 (Value.pointer (some ⟨gx, 0, none⟩)); go_split_ands; refine (HL.out _ (Hid.out ‹Hid (Mods None W _)›)).mono ?_; rintro e w' ⟨rfl, hm⟩)
      | (go_at_call_of 27 (Value.pointer (some ⟨gy, 0, none⟩)); go_split_ands; refine (HRR.out _ (Hid.out ‹Hid (Mods None W _)›)).mono ?_; rintro e w2 ⟨rfl, hm2⟩)))
  all_goals
    go_split_ands
    clear hm hm2
    go_wp2_with fail
    go_ret
    refine ⟨congrArg Ending.returned (congrArg Value.string ?_), Hid.out (by assumption)⟩
    first
      | (simp only [ba_append]; done)
      | (simp [ba_append])
theorem text_item_at (a : Int) {x i : Ex} (hu : isUn x = false) (hx0 : AtC x) (hi0 : TextC i) : TextC (.item a x i) := by
  intro v W hP hn hl h
  simp only [ExAt, NumE] at h hn
  obtain ⟨xv, yv, ⟨g, rfl, _, hb⟩, hx, hy⟩ := h
  obtain ⟨gx, rfl, hcx⟩ := hx.code
  obtain ⟨gy, rfl⟩ := hy.ptr
  have c0 : W.cell? ⟨g, 0, none⟩ = some (.int .i64 8) := hb.cell (i := 0) rfl
  have c5 : W.cell? ⟨g, 5, none⟩ = some (.pointer (some ⟨gx, 0, none⟩)) := hb.cell (i := 5) rfl
  have c6 : W.cell? ⟨g, 6, none⟩ = some (.pointer (some ⟨gy, 0, none⟩)) := hb.cell (i := 6) rfl
  simp only [textB, hu, Bool.false_eq_true, ↓reduceIte] at hl ⊢
  simp only [List.length_append] at hl
  have hcx2 : codeB x ≠ 4 := by cases x <;> first | (simp [isUn] at hu; done) | (simp [codeB])
  have h1 := paren_le (n := levelB x) (least := 6) (t := textB x) (k := 1000000000) (by omega)
  have HL := Lib.hid (fun (w : World) (hm : Mods None W w) => hx0 _ 6 w (hP.next hm) hn.1 (by omega) h1 (hx.mods hm))
  have HRR := Lib.hid (fun (w : World) (hm : Mods None W w) => hi0 _ w (hP.next hm) hn.2 (by omega) (hy.mods hm))
  obtain ⟨cx, hcxe⟩ : ∃ c, c = codeB x := ⟨_, rfl⟩
  rw [← hcxe] at hcx hcx2
  clear hcxe
  obtain ⟨tl, htl⟩ : ∃ t, t = paren (levelB x) 6 (textB x) := ⟨_, rfl⟩
  obtain ⟨tr, htr⟩ : ∃ t, t = textB i := ⟨_, rfl⟩
  rw [← htl] at HL hl ⊢
  rw [← htr] at HRR hl ⊢
  have hlt : tl.length ≤ 1000000000 := by omega
  have hlr : tr.length ≤ 1000000000 := by omega
  have hq0 : ¬ 9223372036854775807 < tl.length + 1 := by omega
  have hq1 : ¬ 9223372036854775807 < tl.length + 1 + tr.length := by omega
  have hq2 : ¬ 9223372036854775807 < tl.length + 1 + tr.length + 1 := by omega
  clear hl hP hb hx hy htl htr hn hu h1
  go_enter Tryd.func27, Tryd.ntmps27
  go_wp2_with fail
  go_region_held3 (fun w' => Hid (Mods None W w') ∧ w'.cell? ⟨g, 5, none⟩ = some (.pointer (some ⟨gx, 0, none⟩)) ∧ w'.cell? ⟨g, 6, none⟩ = some (.pointer (some ⟨gy, 0, none⟩)))
    (first
      | exact ⟨Lib.hid (Mods.refl _ _).drew, c5, c6⟩
      | assumption
      | (go_split_ands; exact ⟨Lib.hid (Mods.trans (Hid.out ‹_›) hm), hm.cellOf ‹_› (fun f => f), hm.cellOf ‹_› (fun f => f)⟩)
      | (go_split_ands; exact ⟨Lib.hid (Mods.trans (Hid.out ‹_›) hm2), hm2.cellOf ‹_› (fun f => f), hm2.cellOf ‹_› (fun f => f)⟩))
    ((first
      | (go_at_call_of 42 (Value.pointer (some ⟨gx, 0, none⟩)); go_split_ands; refine (HL.out _ (Hid.out ‹Hid (Mods None W _)›)).mono ?_; rintro e w' ⟨rfl, hm⟩)
      | (go_at_call_of 27 (Value.pointer (some ⟨gy, 0, none⟩)); go_split_ands; refine (HRR.out _ (Hid.out ‹Hid (Mods None W _)›)).mono ?_; rintro e w2 ⟨rfl, hm2⟩)))
  all_goals
    go_split_ands
    clear hm hm2
    go_wp2_with fail
    go_ret
    refine ⟨congrArg Ending.returned (congrArg Value.string ?_), Hid.out (by assumption)⟩
    first
      | (simp only [ba_append]; done)
      | (simp [ba_append])
end Go.Proofs.YtinbahmpifokaaaDoor.TreeP

/- Texts of instructions, plainly: what their lines are; places. No program in sight. No conditions. -/
import Derived.Test.YtodgkbcgdbhpeaaGreatDoorAsmP
namespace Go.Proofs.YtodgkbcgdbhpeaaGreatDoor.AsmP
open Go.RowKit Go.Proofs.YtodgkbcgdbhpeaaGreatDoor.WordP
set_option linter.unusedVariables false
set_option linter.unusedSimpArgs false
def yInst (x : Ins) : LineR := .inst x []
/-- Lines that are instructions without places, or blank. -/
theorem lines_plain : (ls : List (List UInt8)) → (i : Nat) → (t : TxS) → (xs : List Ins) → (ls.map lineR).filter (· ≠ .blank) = xs.map yInst →
    ∃ ys, linesR ls i t = .ok ⟨t.l ++ ys, t.places⟩ ∧ ys.map (·.1) = xs ∧ ∀ y ∈ ys, y.2.1 = []
  | [], i, t, xs, h => by
    cases xs with
    | nil => exact ⟨[], by simp [linesR], rfl, by simp⟩
    | cons x r => simp at h
  | s :: r, i, t, xs, h => by
    rw [List.map_cons, List.filter_cons] at h
    simp only [linesR, addR]
    by_cases hb : lineR s = .blank
    · rw [hb, if_neg (by simp)] at h
      rw [hb]
      exact lines_plain r (i + 1) t xs h
    · rw [if_pos (by simpa using hb)] at h
      cases xs with
      | nil => simp at h
      | cons x xs =>
        rw [List.map_cons, List.cons.injEq] at h
        rw [h.1]
        simp only [yInst]
        obtain ⟨ys, h1, h2, h3⟩ := lines_plain r (i + 1) { t with l := t.l ++ [(x, [], i)] } xs h.2
        refine ⟨(x, [], i) :: ys, by rw [h1]; simp, by rw [List.map_cons, h2], fun y hy => ?_⟩
        rcases List.mem_cons.1 hy with rfl | hy
        · rfl
        · exact h3 y hy
theorem out_plain (ps : List (List UInt8 × Nat)) : (ys : List (Ins × List UInt8 × Nat)) → (i : Nat) → (∀ y ∈ ys, y.2.1 = [] ∧ y.1.right = true) → outR ps ys i = .ok (ys.map (·.1))
  | [], i, _ => rfl
  | y :: r, i, h => by
    obtain ⟨h1, h2⟩ := h y List.mem_cons_self
    simp only [outR, aimed, h1, h2]
    rw [out_plain ps r (i + 1) (fun z hz => h z (List.mem_cons_of_mem _ hz))]
    simp
/-- A text without places. -/
theorem asm_plain {s : List UInt8} {xs : List Ins} (h : ((splitL 10 s).map lineR).filter (· ≠ .blank) = xs.map yInst) (hr : ∀ x ∈ xs, x.right = true) : asmR s = .ok xs := by
  obtain ⟨ys, h1, h2, h3⟩ := lines_plain (splitL 10 s) 0 ⟨[], []⟩ xs h
  unfold asmR
  rw [h1]
  simp only [List.nil_append]
  rw [out_plain [] ys 0 (fun y hy => ⟨h3 y hy, hr y.1 (by rw [← h2]; exact List.mem_map_of_mem hy)⟩), h2]
/-- How instructions are written, a line each. -/
def textB (l : List Ins) : List UInt8 := (l.map fun x => printB x ++ [10]).flatten
theorem textB_cons (x : Ins) (l : List Ins) : textB (x :: l) = printB x ++ 10 :: textB l := by simp [textB]
theorem split_text : (l : List Ins) → (r : List UInt8) → (∀ x ∈ l, x.right = true) → splitL 10 (textB l ++ r) = l.map printB ++ splitL 10 r
  | [], r, _ => rfl
  | x :: l, r, h => by
    rw [textB_cons, List.append_assoc, List.cons_append, splitL_app _ _ (print_clean (h x List.mem_cons_self)).1, split_text l r (fun y hy => h y (List.mem_cons_of_mem _ hy))]
    rfl
theorem lineR_one {x : Ins} (hx : x.right = true) : lineR (printB x) = yInst x := by
  have := lineR_print hx 0 0
  simpa [yInst] using this
theorem map_lines : (l : List Ins) → (∀ x ∈ l, x.right = true) → ((l.map printB).map lineR).filter (· ≠ .blank) = l.map yInst
  | [], _ => rfl
  | x :: l, h => by
    rw [List.map_cons, List.map_cons, List.filter_cons, lineR_one (h x List.mem_cons_self), if_pos (by simp [yInst]), map_lines l (fun y hy => h y (List.mem_cons_of_mem _ hy))]
    rfl
theorem lineR_nil : lineR [] = .blank := lineR_blank 0
theorem text_lines (m : List Ins) (h : ∀ x ∈ m, x.right = true) : ((splitL 10 (textB m)).map lineR).filter (· ≠ .blank) = m.map yInst := by
  have := split_text m [] h
  rw [List.append_nil] at this
  rw [this, List.map_append, List.filter_append, map_lines m h]
  simp [splitL, lineR_nil]
/-- What is written is these instructions. -/
theorem asm_text (l : List Ins) (h : ∀ x ∈ l, x.right = true) : asmR (textB l) = .ok l := asm_plain (text_lines l h) h
/-! Blanks ahead of a line, and behind it. -/
theorem trimB_32 (s : List UInt8) : Lib.trimB (32 :: s) 32 = Lib.trimB s 32 := by
  unfold Lib.trimB
  have key : Lib.trimRightB (32 :: s) 32 = if Lib.trimRightB s 32 = [] then [] else 32 :: Lib.trimRightB s 32 := by
    unfold Lib.trimRightB
    rw [List.reverse_cons, List.dropWhile_append]
    by_cases h : s.reverse.dropWhile (· == 32) = []
    · rw [h]
      simp
    · have : (s.reverse.dropWhile (· == 32)).isEmpty = false := by simpa using h
      rw [this]
      simp [h]
  rw [key]
  split
  · rename_i h; rw [h]
  · unfold Lib.trimLeftB
    rw [List.dropWhile_cons, if_pos (by rfl)]
theorem lineR_32 (s : List UInt8) : lineR (32 :: s) = lineR s := by
  unfold lineR
  rw [trimB_32]
/-- Every line's end with blanks and another one. -/
def wideB (l : List Ins) : List UInt8 := (l.map fun x => printB x ++ [32, 32, 10, 10]).flatten
theorem wideB_cons (x : Ins) (l : List Ins) : wideB (x :: l) = (printB x ++ [32, 32]) ++ 10 :: 10 :: wideB l := by simp [wideB]
theorem wide_lines (m : List Ins) (hm : ∀ x ∈ m, x.right = true) : (l : List Ins) → (∀ x ∈ l, x.right = true) → ((splitL 10 (wideB l ++ textB m)).map lineR).filter (· ≠ .blank) = (l ++ m).map yInst
  | [], _ => text_lines m hm
  | x :: l, h => by
    have hx := h x List.mem_cons_self
    have hc : 10 ∉ printB x ++ [32, 32] := by
      simp only [List.mem_append, List.mem_cons, List.not_mem_nil, or_false, not_or]
      exact ⟨(print_clean hx).1, by decide, by decide⟩
    have e : (10 : UInt8) :: wideB l ++ textB m = [] ++ 10 :: (wideB l ++ textB m) := rfl
    rw [wideB_cons, List.append_assoc, List.cons_append, splitL_app _ _ hc, e, splitL_app [] _ (by simp)]
    have h1 : lineR (printB x ++ [32, 32]) = yInst x := by
      have := lineR_print hx 0 2
      simpa [yInst] using this
    rw [List.map_cons, List.map_cons, List.filter_cons, List.filter_cons, h1, lineR_nil, if_pos (by simp [yInst]), if_neg (by simp), wide_lines m hm l (fun y hy => h y (List.mem_cons_of_mem _ hy))]
    rfl
theorem asm_wide (l m : List Ins) (hl : ∀ x ∈ l, x.right = true) (hm : ∀ x ∈ m, x.right = true) : asmR ([32, 32] ++ wideB l ++ textB m) = .ok (l ++ m) := by
  refine asm_plain ?_ (fun x hx => ?_)
  · have h := wide_lines m hm l hl
    rw [List.append_assoc]
    obtain ⟨a, r, hs⟩ : ∃ a r, splitL 10 (wideB l ++ textB m) = a :: r := by
      cases hq : splitL 10 (wideB l ++ textB m) with
      | nil => exact absurd hq (splitL_ne _ _)
      | cons a r => exact ⟨a, r, rfl⟩
    have hs2 : splitL 10 ([32, 32] ++ (wideB l ++ textB m)) = (32 :: 32 :: a) :: r := by
      show splitL 10 (32 :: 32 :: (wideB l ++ textB m)) = _
      simp only [splitL]
      rw [if_neg (by decide), if_neg (by decide), hs]
    rw [hs] at h
    rw [hs2, List.map_cons, lineR_32, lineR_32]
    rw [List.map_cons] at h
    exact h
  · rcases List.mem_append.1 hx with hx | hx
    · exact hl x hx
    · exact hm x hx
/-! A place, and a jump to it. -/
def hereB : List UInt8 := [104, 101, 114, 101]
def jalB : List UInt8 := [106, 97, 108, 32, 120, 49, 44, 104, 101, 114, 101]
theorem itoa_1 : Lib.itoa 1 = [49] := by
  unfold Lib.itoa
  rw [if_neg (by omega), show (1 : Int).toNat = 1 from rfl, Lib.decDigits, dif_pos (by omega)]
  rfl
theorem reg_1 : regR [120, 49] = some 1 := by
  have := regR_regT (n := 1) (by omega) (by omega)
  unfold regT at this
  rw [itoa_1] at this
  exact this
theorem here_num : numR hereB = none := by
  unfold numR
  rw [Lib.parseIntB_64, show hereB = 104 :: [101, 114, 101] from rfl, Lib.atoiAll_plain _ _ (by decide) (by decide)]
  have : Lib.parseMag [104, 101, 114, 101] = Lib.parseMag [] := by
    unfold Lib.parseMag
    rw [if_neg (by simp)]
    simp [Lib.parseUint10]
  rw [this]
  rfl
theorem lineR_here : lineR (hereB ++ [58]) = .place hereB := by
  have h := trimB_none (s := hereB ++ [58]) (by decide)
  unfold lineR
  rw [h]
  unfold lineT
  rw [hasSuffix_one, trimSuffix_app]
  rw [if_pos (by rfl), if_pos (by rfl)]
theorem lineR_jal : lineR jalB = .inst ⟨30, 1, 0, 0, 0⟩ hereB := by
  have h : Lib.trimB jalB 32 = jalB := by
    have := trimB_app jalB (by decide) (by decide) 0 0
    simpa using this
  unfold lineR
  rw [h]
  unfold lineT
  rw [hasSuffix_one, if_neg (by decide), if_neg (by decide)]
  have e : cutL 32 jalB = ([106, 97, 108], [120, 49, 44, 104, 101, 114, 101], true) := by decide
  have w : wordsR jalB = [[120, 49], hereB] := by
    unfold wordsR
    rw [e]
    simp only [if_true]
    rw [trimB_none (by decide)]
    decide
  rw [e, w]
  have o : opOf [106, 97, 108] = 30 := by decide
  simp only [o]
  rw [if_neg (by omega)]
  have p : partsOf 30 = [100, 116] := by decide
  have r : partsR [100, 116] [[120, 49], hereB] ⟨30, 0, 0, 0, 0⟩ [] = some (⟨30, 1, 0, 0, 0⟩, hereB) := by
    have h1 : partR 100 [120, 49] ⟨30, 0, 0, 0, 0⟩ [] = some (⟨30, 1, 0, 0, 0⟩, []) := by
      unfold partR
      rw [if_pos rfl, reg_1]
      rfl
    have h2 : partR 116 hereB ⟨30, 1, 0, 0, 0⟩ [] = some (⟨30, 1, 0, 0, 0⟩, hereB) := by
      unfold partR
      rw [if_neg (by decide), if_neg (by decide), if_neg (by decide), if_neg (by decide), if_pos rfl, here_num]
      simp only
      rw [if_pos (by decide)]
    simp only [partsR, h1, Option.bind_some, h2]
  rw [p, r]
/-- What AsmPlaces' text has at i. -/
def placeT (l : List Ins) (at_ tgt i : Nat) : List UInt8 :=
  (if i = tgt then hereB ++ [58, 10] else []) ++ (if i = at_ then jalB ++ [10] else if i ≤ l.length then printB (l.getD (if at_ < i then i - 1 else i) ⟨0, 0, 0, 0, 0⟩) ++ [10] else [])
def restT (l : List Ins) (at_ tgt : Nat) : Nat → Nat → List UInt8
  | 0, _ => []
  | n + 1, i => placeT l at_ tgt i ++ restT l at_ tgt n (i + 1)
/-- The instructions of that text, and where each leads. -/
def insT (l : List Ins) (at_ : Nat) (i : Nat) : Ins × List UInt8 := if i = at_ then (⟨30, 1, 0, 0, 0⟩, hereB) else (l.getD (if at_ < i then i - 1 else i) ⟨0, 0, 0, 0, 0⟩, [])
theorem place_lines {l : List Ins} {at_ tgt : Nat} (hr : ∀ x ∈ l, x.right = true) (ha : at_ ≤ l.length) (ht : tgt ≤ l.length + 1) : (n i : Nat) → i + n = l.length + 2 → (ln : Nat) → (t : TxS) →
    t.l.map (fun y => (y.1, y.2.1)) = (List.range (min i (l.length + 1))).map (insT l at_) → t.places = (if tgt < i then [(hereB, tgt)] else []) →
    ∃ t', linesR (splitL 10 (restT l at_ tgt n i)) ln t = .ok t' ∧ t'.l.map (fun y => (y.1, y.2.1)) = (List.range (l.length + 1)).map (insT l at_) ∧ t'.places = [(hereB, tgt)]
  | 0, i, hi, ln, t, h1, h2 => by
    refine ⟨t, ?_, by rw [h1, Nat.min_eq_right (by omega)], by rw [h2, if_pos (by omega)]⟩
    simp only [restT, splitL, linesR, addR, lineR_nil]
  | n + 1, i, hi, ln, t, h1, h2 => by
    have ih := place_lines hr ha ht n (i + 1) (by omega)
    simp only [restT]
    -- the place's line first
    have first : ∃ ln1 t1, linesR (splitL 10 (placeT l at_ tgt i ++ restT l at_ tgt n (i + 1))) ln t = linesR (splitL 10 ((if i = at_ then jalB ++ [10] else if i ≤ l.length then printB (l.getD (if at_ < i then i - 1 else i) ⟨0, 0, 0, 0, 0⟩) ++ [10] else []) ++ restT l at_ tgt n (i + 1))) ln1 t1 ∧ t1.l = t.l ∧ t1.places = (if tgt < i + 1 then [(hereB, tgt)] else []) := by
      unfold placeT
      by_cases hit : i = tgt
      · subst hit
        rw [if_pos rfl, List.append_assoc]
        have e : hereB ++ [58, 10] ++ ((if i = at_ then jalB ++ [10] else if i ≤ l.length then printB (l.getD (if at_ < i then i - 1 else i) ⟨0, 0, 0, 0, 0⟩) ++ [10] else []) ++ restT l at_ i n (i + 1)) = (hereB ++ [58]) ++ 10 :: ((if i = at_ then jalB ++ [10] else if i ≤ l.length then printB (l.getD (if at_ < i then i - 1 else i) ⟨0, 0, 0, 0, 0⟩) ++ [10] else []) ++ restT l at_ i n (i + 1)) := by simp
        rw [e, splitL_app _ _ (by decide)]
        have hp : t.places = [] := by rw [h2, if_neg (by omega)]
        refine ⟨ln + 1, { t with places := (hereB, t.l.length) :: t.places }, ?_, rfl, ?_⟩
        · simp only [linesR, addR, lineR_here, hp, findP, List.find?_nil, Option.map_none]
        · have hlen : t.l.length = i := by
            have := congrArg List.length h1
            simp only [List.length_map, List.length_range] at this
            omega
          rw [if_pos (by omega), hp, hlen]
      · rw [if_neg hit, List.nil_append]
        refine ⟨ln, t, rfl, rfl, ?_⟩
        rw [h2]
        by_cases h : tgt < i
        · rw [if_pos h, if_pos (by omega)]
        · rw [if_neg h, if_neg (by omega)]
    obtain ⟨ln1, t1, e1, e2, e3⟩ := first
    rw [e1]
    by_cases hia : i = at_
    · rw [if_pos hia]
      have e : jalB ++ [10] ++ restT l at_ tgt n (i + 1) = jalB ++ 10 :: restT l at_ tgt n (i + 1) := by simp
      rw [e, splitL_app _ _ (by decide)]
      simp only [linesR, addR, lineR_jal]
      refine ih (ln1 + 1) _ ?_ e3
      simp only [List.map_append, List.map_cons, List.map_nil, e2, h1]
      rw [Nat.min_eq_left (by omega), Nat.min_eq_left (by omega), List.range_succ, List.map_append]
      simp [insT, hia]
    · rw [if_neg hia]
      by_cases hil : i ≤ l.length
      · rw [if_pos hil]
        obtain ⟨k, hk⟩ : ∃ k, (if at_ < i then i - 1 else i) = k := ⟨_, rfl⟩
        have hkl : k < l.length := by
          rw [← hk]
          split
          · omega
          · rcases Nat.lt_or_ge i l.length with h | h
            · exact h
            · have : at_ = i := by omega
              exact absurd this.symm hia
        have hx : (l.getD k ⟨0, 0, 0, 0, 0⟩).right = true := by
          rw [List.getD_eq_getElem?_getD, List.getElem?_eq_getElem hkl]
          exact hr _ (List.getElem_mem hkl)
        rw [hk]
        have e : printB (l.getD k ⟨0, 0, 0, 0, 0⟩) ++ [10] ++ restT l at_ tgt n (i + 1) = printB (l.getD k ⟨0, 0, 0, 0, 0⟩) ++ 10 :: restT l at_ tgt n (i + 1) := by simp
        rw [e, splitL_app _ _ (print_clean hx).1]
        simp only [linesR, addR, lineR_one hx, yInst]
        refine ih (ln1 + 1) _ ?_ e3
        simp only [List.map_append, List.map_cons, List.map_nil, e2, h1]
        rw [Nat.min_eq_left (by omega), Nat.min_eq_left (by omega), List.range_succ, List.map_append]
        simp only [List.map_cons, List.map_nil, insT]
        rw [if_neg hia, hk]
      · rw [if_neg hil, List.nil_append]
        refine ih ln1 t1 ?_ e3
        rw [e2, h1, Nat.min_eq_right (by omega), Nat.min_eq_right (by omega)]
theorem out_one (ps : List (List UInt8 × Nat)) : (ys : List (Ins × List UInt8 × Nat)) → (i : Nat) → (f : Nat → Ins) → (∀ (j : Nat) y, ys[j]? = some y → aimed ps y (i + j) = .ok (f (i + j))) → outR ps ys i = .ok ((List.range' i ys.length).map f)
  | [], i, f, _ => rfl
  | y :: r, i, f, h => by
    have h0 := h 0 y rfl
    simp only [Nat.add_zero] at h0
    have hr := out_one ps r (i + 1) f (fun j z hz => by
      have := h (j + 1) z (by simpa using hz)
      rw [show i + 1 + j = i + (j + 1) by omega]
      exact this)
    simp only [outR, h0, hr, List.length_cons, List.range'_succ, List.map_cons]
/-- What AsmPlaces' text is. -/
theorem asm_place {l : List Ins} {at_ tgt : Nat} (hr : ∀ x ∈ l, x.right = true) (ha : at_ ≤ l.length) (ht : tgt ≤ l.length + 1) (hl : l.length ≤ 60) :
    asmR (restT l at_ tgt (l.length + 2) 0) = .ok ((List.range (l.length + 1)).map fun i => if i = at_ then ⟨30, 1, 0, 0, ((tgt : Int) - at_) * 4⟩ else l.getD (if at_ < i then i - 1 else i) ⟨0, 0, 0, 0, 0⟩) := by
  obtain ⟨t, h1, h2, h3⟩ := place_lines hr ha ht (l.length + 2) 0 (by omega) 0 ⟨[], []⟩ (by simp) (by simp)
  unfold asmR
  rw [h1]
  simp only
  have hlen : t.l.length = l.length + 1 := by
    have := congrArg List.length h2
    simpa using this
  have ho := out_one t.places t.l 0 (fun i => if i = at_ then ⟨30, 1, 0, 0, ((tgt : Int) - at_) * 4⟩ else l.getD (if at_ < i then i - 1 else i) ⟨0, 0, 0, 0, 0⟩) (fun j y hy => by
    have hj : j < l.length + 1 := by rw [← hlen]; exact (List.getElem?_eq_some_iff.1 hy).1
    have hq : (y.1, y.2.1) = insT l at_ j := by
      have := congrArg (fun z : List (Ins × List UInt8) => z[j]?) h2
      simp only [List.getElem?_map, hy, Option.map_some, List.getElem?_range hj, Option.some.injEq] at this
      exact this
    simp only [Nat.zero_add]
    unfold insT at hq
    unfold aimed
    by_cases hja : j = at_
    · rw [if_pos hja] at hq
      obtain ⟨q1, q2⟩ := Prod.mk.inj hq
      rw [q2, if_pos (by decide), h3]
      have hf : findP [(hereB, tgt)] hereB = some tgt := by simp [findP]
      rw [hf, q1]
      simp only
      have hright : (⟨30, 1, 0, 0, ((tgt : Int) - j) * 4⟩ : Ins).right = true := by
        have hk : kindOf 30 = 74 := by decide
        simp [Ins.right, rightB, regB, hk, bodyB, fitB]
        omega
      rw [if_pos hright, if_pos hja, hja]
    · rw [if_neg hja] at hq
      obtain ⟨q1, q2⟩ := Prod.mk.inj hq
      rw [q2, if_neg (by simp), q1, if_neg hja]
      obtain ⟨k, hk⟩ : ∃ k, (if at_ < j then j - 1 else j) = k := ⟨_, rfl⟩
      have hkl : k < l.length := by
        rw [← hk]
        split <;> omega
      rw [hk]
      have hx : (l.getD k ⟨0, 0, 0, 0, 0⟩).right = true := by
        rw [List.getD_eq_getElem?_getD, List.getElem?_eq_getElem hkl]
        exact hr _ (List.getElem_mem hkl)
      rw [if_pos hx])
  rw [ho, hlen, ← List.range_eq_range']
end Go.Proofs.YtodgkbcgdbhpeaaGreatDoor.AsmP

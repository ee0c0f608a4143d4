/- What the document's reader asks its marks and words, plainly. No program in sight. No conditions. -/
import Derived.Test.YtdgedlhefjmcpaaGreatDoorTreeP
import Derived.Lib.IndexMore
namespace Go.Proofs.YtdgedlhefjmcpaaGreatDoor.TreeP
open Go.RowKit
set_option linter.unusedVariables false
set_option linter.unusedSimpArgs false
theorem index_neg (s sub : List UInt8) : 0 ≤ Lib.index s sub ↔ sub <:+: s := by
  induction s with
  | nil =>
    unfold Lib.index
    cases sub with
    | nil => simp
    | cons c r => simp
  | cons b l ih =>
    unfold Lib.index
    rw [List.infix_cons_iff]
    split
    · rename_i h
      simp [List.isPrefixOf_iff_prefix.1 h]
    · rename_i h
      have h' : ¬ sub <+: b :: l := fun k => h (List.isPrefixOf_iff_prefix.2 k)
      have hge := Lib.index_ge l sub
      split
      · rename_i h2
        have h2 := eq_of_beq h2
        constructor
        · intro h; omega
        · rintro (h | h)
          · exact absurd h h'
          · have := ih.2 h; omega
      · rename_i h2
        have h2 : Lib.index l sub ≠ -1 := fun k => h2 (by rw [k]; rfl)
        constructor
        · intro _; exact Or.inr (ih.1 (by omega))
        · intro _; omega
theorem contains_iff (s sub : List UInt8) : Lib.contains s sub = true ↔ sub <:+: s := by
  unfold Lib.contains
  rw [decide_eq_true_iff, index_neg]
theorem infix_skip (x y : List UInt8) : (w : List UInt8) → 32 ∉ w → ((32 :: x) <:+: (w ++ y) ↔ (32 :: x) <:+: y)
  | [], _ => Iff.rfl
  | c :: w, h => by
    rw [List.cons_append, List.infix_cons_iff, infix_skip x y w (fun k => h (List.mem_cons_of_mem _ k))]
    constructor
    · rintro (h2 | h2)
      · obtain ⟨t, ht⟩ := h2
        simp only [List.cons_append, List.cons.injEq] at ht
        exact absurd (by rw [← ht.1]; exact List.mem_cons_self) h
      · exact h2
    · exact Or.inr
theorem prefix_word (y : List UInt8) : (t w : List UInt8) → 32 ∉ t → 32 ∉ w → ((t ++ [32]) <+: (w ++ 32 :: y) ↔ t = w)
  | [], [], _, _ => by simp
  | [], c :: w, _, h2 => by
    simp only [List.nil_append, List.cons_append, List.cons_prefix_cons, List.nil_prefix, and_true]
    constructor
    · intro h; exact absurd (by rw [h]; exact List.mem_cons_self) h2
    · intro h; cases h
  | c :: t, [], h1, _ => by
    simp only [List.nil_append, List.cons_append, List.cons_prefix_cons]
    constructor
    · intro h; exact absurd (by rw [← h.1]; exact List.mem_cons_self) h1
    · intro h; cases h
  | c :: t, d :: w, h1, h2 => by
    simp only [List.cons_append, List.cons_prefix_cons, List.cons.injEq]
    rw [prefix_word y t w (fun k => h1 (List.mem_cons_of_mem _ k)) (fun k => h2 (List.mem_cons_of_mem _ k))]
/-- Words, a blank behind each. -/
def blanked (ws : List (List UInt8)) : List UInt8 := ws.flatMap (· ++ [32])
theorem infix_words (t : List UInt8) (ht : 32 ∉ t) : (ws : List (List UInt8)) → (∀ w ∈ ws, 32 ∉ w) → ((32 :: (t ++ [32])) <:+: (32 :: blanked ws) ↔ t ∈ ws)
  | [], _ => by
    simp only [blanked, List.flatMap_nil, List.not_mem_nil, iff_false]
    intro h
    have := h.length_le
    simp at this
  | w :: ws, h => by
    have hb : blanked (w :: ws) = w ++ 32 :: blanked ws := by simp [blanked]
    rw [hb, List.infix_cons_iff, List.cons_prefix_cons, prefix_word _ t w ht (h w List.mem_cons_self), infix_skip _ _ w (h w List.mem_cons_self), infix_words t ht ws (fun x hx => h x (List.mem_cons_of_mem _ hx)), List.mem_cons]
    simp
theorem no_blank {t : List UInt8} (h : t.all (fun x => letterB x || digitB x) = true) : 32 ∉ t := by
  intro k
  have := List.all_eq_true.1 h 32 k
  revert this
  decide
/-- The kept words, a blank ahead of each and behind. -/
def keptText : List UInt8 := [32, 102, 110, 32, 118, 97, 114, 32, 105, 102, 32, 101, 108, 115, 101, 32, 119, 104, 105, 108, 101, 32, 114, 101, 116, 117, 114, 110, 32, 112, 114, 105, 110, 116, 32, 110, 101, 119, 32, 108, 101, 110, 32, 105, 110, 112, 117, 116, 32, 105, 110, 116, 32, 97, 114, 114, 32]
theorem kept_text {t : List UInt8} (ht : 32 ∉ t) : Lib.contains keptText (32 :: (t ++ [32])) = keptB t := by
  have h := infix_words t ht keptList (by decide)
  have hk : (32 : UInt8) :: blanked keptList = keptText := by decide
  rw [hk, ← contains_iff] at h
  unfold keptB
  rw [Bool.eq_iff_iff, h, List.contains_iff_mem]
/-- The marks of a level, a blank ahead of each and behind. -/
def levelText (n : Nat) : List UInt8 := 32 :: blanked (levelList.getD n [])
theorem level_text {t : List UInt8} (ht : 32 ∉ t) (n : Nat) : Lib.contains (levelText n) (32 :: (t ++ [32])) = (levelList.getD n []).contains t := by
  have h := infix_words t ht (levelList.getD n []) (by
    by_cases hn : n < 6
    · have : ∀ n, n < 6 → ∀ w ∈ levelList.getD n [], 32 ∉ w := by decide
      exact this n hn
    · rw [List.getD_eq_getElem?_getD, List.getElem?_eq_none (by show 6 ≤ n; omega)]
      simp)
  rw [Bool.eq_iff_iff, contains_iff, List.contains_iff_mem]
  exact h
theorem opP_level (n : Nat) (ts : List Tok) (h4 : headKind ts ≠ 4) : opP n ts = if (levelList.getD n []).contains (headText ts) then headText ts else [] := by
  unfold opP
  generalize levelList.getD n [] = l
  induction l with
  | nil => simp
  | cons m l ih =>
    rw [List.find?_cons]
    have hs : seeB m ts = (headText ts == m) := by
      unfold seeB
      rw [show (headKind ts != 4) = true by simpa using h4, Bool.and_true]
    rw [hs, List.contains_cons]
    by_cases hm : headText ts = m
    · rw [hm]; simp
    · have : (headText ts == m) = false := by simpa using hm
      rw [this]
      simp only [Bool.false_or]
      exact ih
/-- The pass over the marks of a length: whether one of those ahead of j stands here. -/
def passB (n j : Nat) (l : List UInt8) : Bool := (markList.take j).any fun m => m.length == n && m.isPrefixOf l
theorem passB_next {n j : Nat} {l m : List UInt8} (h : markList[j]? = some m) : passB n (j + 1) l = (passB n j l || (m.length == n && m.isPrefixOf l)) := by
  unfold passB
  rw [List.take_add_one, h, List.any_append]
  simp
theorem pass_all (n : Nat) (l : List UInt8) : passB n 24 l = markList.any fun m => m.length == n && m.isPrefixOf l := by
  unfold passB
  rw [show markList.take 24 = markList from rfl]
def markN (l : List UInt8) : Nat := ((markList.find? (fun m => m.isPrefixOf l)).map List.length).getD 0
theorem find_split (q : List UInt8 → Bool) : (L2 L1 : List (List UInt8)) → (∀ m ∈ L2, m.length = 2) → (∀ m ∈ L1, m.length = 1) → (((L2 ++ L1).find? q).map List.length).getD 0 = if (L2 ++ L1).any (fun m => m.length == 2 && q m) then 2 else if (L2 ++ L1).any (fun m => m.length == 1 && q m) then 1 else 0
  | [], L1, _, h1 => by
    rw [List.nil_append, if_neg (by
      intro h
      obtain ⟨m, hm, hq⟩ := List.any_eq_true.1 h
      rw [h1 m hm] at hq
      simp at hq)]
    induction L1 with
    | nil => simp
    | cons m L ih =>
      have hm := h1 m List.mem_cons_self
      rw [List.find?_cons, List.any_cons, hm]
      cases hq : q m with
      | true => simp [hm]
      | false =>
        simp only [hq, Bool.and_false, Bool.false_or]
        exact ih (fun x hx => h1 x (List.mem_cons_of_mem _ hx))
  | m :: L2, L1, h2, h1 => by
    have hm := h2 m List.mem_cons_self
    rw [List.cons_append, List.find?_cons, List.any_cons, List.any_cons, hm]
    cases hq : q m with
    | true => simp [hm]
    | false =>
      simp only [hq, Bool.and_false, Bool.false_or]
      exact find_split q L2 L1 (fun x hx => h2 x (List.mem_cons_of_mem _ hx)) h1
theorem mark_two (l : List UInt8) : markN l = if passB 2 24 l then 2 else if passB 1 24 l then 1 else 0 := by
  rw [pass_all, pass_all]
  exact find_split (fun m => m.isPrefixOf l) (markList.take 6) (markList.drop 6) (by decide) (by decide)
end Go.Proofs.YtdgedlhefjmcpaaGreatDoor.TreeP

/- Plain law: the register that is written, if another one is, changes a word by just so much. No program in sight. -/
import Derived.Test.YtgeajgdddjjjnaaDoorWordLaws
namespace Go.Proofs.YtgeajgdddjjjnaaDoor.WordP
open Go.RowKit
set_option linter.unusedVariables false
set_option linter.unusedSimpArgs false
theorem kindsB : ∀ i : Fin 32, (kindOf i.val = 83 → i.val = 24) ∧ (kindOf i.val = 66 → 25 ≤ i.val ∧ i.val ≤ 28) := by decide +kernel
theorem kinds_no (op : Int) (h1 : 1 ≤ op) (h2 : op ≤ 31) : (kindOf op = 83 → op = 24) ∧ (kindOf op = 66 → 25 ≤ op ∧ op ≤ 28) := by
  obtain ⟨i, rfl⟩ := Int.eq_ofNat_of_zero_le (show 0 ≤ op by omega)
  obtain ⟨a, b⟩ := kindsB ⟨i, by omega⟩
  exact ⟨fun h => by have : i = 24 := a h
                     omega, fun h => by have : 25 ≤ i ∧ i ≤ 28 := b h
                                        omega⟩
theorem rd_apart (x : Ins) (h : x.right = true) (d : Int) (hd : 0 ≤ d ∧ d < 32) (h24 : ¬ x.op = 24) (h25 : ¬ (25 ≤ x.op ∧ x.op ≤ 28)) (h31 : ¬ x.op = 31) :
    (Ins.mk x.op d x.ra x.rb x.n).right = true ∧ (Ins.mk x.op d x.ra x.rb x.n).word = x.word + (d - x.rd) * 128 := by
  obtain ⟨⟨h1, h2⟩, hrd, hra, hrb, hb⟩ := right_parts h
  obtain ⟨⟨hl, hm, hh, hz, he⟩, hk⟩ := tab_ok x.op h1 h2
  obtain ⟨n1, n2⟩ := kinds_no x.op h1 h2
  obtain ⟨op, rd, ra, rb, n⟩ := x
  simp only [Ins.word, Ins.right, rightB] at *
  generalize lowOf op = l at *
  generalize midOf op = m at *
  generalize highOf op = hi at *
  have r0 : (decide (1 ≤ op) && decide (op ≤ 31) && regB d && regB ra && regB rb) = true := by
    simp [regB, h1, h2, hd.1, hd.2, hra.1, hra.2, hrb.1, hrb.2]
  rcases hk with hk | hk | hk | hk | hk | hk | hk | ⟨hk, h31'⟩ <;> rw [hk] at hb hz he n1 n2 ⊢
  · refine ⟨?_, ?_⟩
    · rw [r0]; simp [bodyB] at hb ⊢; exact hb
    · rw [raw_82 l m d ra rb n hi hl hm hd hra hrb hh, raw_82 l m rd ra rb n hi hl hm hrd hra hrb hh]; omega
  · refine ⟨?_, ?_⟩
    · rw [r0]; simp [bodyB] at hb ⊢; exact hb
    · rw [raw_73 l m d ra rb n hi hl hm hd hra hrb hh, raw_73 l m rd ra rb n hi hl hm hrd hra hrb hh]; omega
  · obtain ⟨g, hg⟩ : ∃ g, hi = 2 * g := ⟨hi / 2, by have := he rfl; omega⟩
    refine ⟨?_, ?_⟩
    · rw [r0]; simp [bodyB] at hb ⊢; exact hb
    · rw [raw_72 l m d ra rb n hi g hl hm hd hra hrb (by omega) hg, raw_72 l m rd ra rb n hi g hl hm hrd hra hrb (by omega) hg]; omega
  · exact absurd (n1 rfl) h24
  · exact absurd (n2 rfl) h25
  · refine ⟨?_, ?_⟩
    · rw [r0]; simp [bodyB] at hb ⊢; exact hb
    · rw [raw_85 l m d ra rb n hi hl hm hd hra hrb hh (hz (.inl rfl)), raw_85 l m rd ra rb n hi hl hm hrd hra hrb hh (hz (.inl rfl))]; omega
  · refine ⟨?_, ?_⟩
    · rw [r0]; simp [bodyB] at hb ⊢; exact hb
    · rw [raw_74 l m d ra rb n hi hl hm hd hra hrb hh (hz (.inr (.inl rfl))), raw_74 l m rd ra rb n hi hl hm hrd hra hrb hh (hz (.inr (.inl rfl)))]; omega
  · exact absurd h31' h31
theorem word_low (x : Ins) (h : x.right = true) : x.word % 128 = lowOf x.op := by
  have := (ins_back x h).2.1
  simp only [like, Bool.and_eq_true, beq_iff_eq] at this
  exact this.1.symm
end Go.Proofs.YtgeajgdddjjjnaaDoor.WordP

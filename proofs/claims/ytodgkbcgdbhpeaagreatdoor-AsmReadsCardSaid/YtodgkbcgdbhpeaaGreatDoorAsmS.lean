/- Strings cut, trimmed, split and looked up, in lists of bytes. Conditions: the tables lie. -/
import Derived.Test.YtodgkbcgdbhpeaaGreatDoorAsmN
import Derived.Lib.SplitLaws
namespace Go.Proofs.YtodgkbcgdbhpeaaGreatDoor.AsmP
open Go.RowKit Go.Proofs.YtodgkbcgdbhpeaaGreatDoor.WordP Go.Proofs.YtodgkbcgdbhpeaaGreatDoor.Wo
set_option linter.unusedVariables false
set_option linter.unusedSimpArgs false
theorem size_str (s : List UInt8) : (⟨s.toArray⟩ : ByteArray).size = s.length := by simp [ByteArray.size]
theorem drew_mods {w w' : World} (h : w' = w ∨ w' = w.drew) : Mods None w w' := by
  rcases h with rfl | rfl
  · exact Mods.refl _ _
  · exact (Mods.refl _ _).drew
theorem drewN_mods {w w' : World} (h : ∃ n, w' = w.drewN n) : Mods None w w' := by
  obtain ⟨n, rfl⟩ := h
  exact (Mods.refl _ _).drewN n
theorem trim1_any (s : List UInt8) (hs : s.length ≤ 1000000) (W : World) : Calls Tryz.prog 32 #[str s, .string ⟨#[32]⟩] W fun e w => e = .returned (str (Lib.trimB s 32)) ∧ Mods None W w :=
  (Tryz.strings_Trim_one ⟨s.toArray⟩ 32 (by decide) W (by rw [size_str]; omega)).mono fun e w h => ⟨h.1, drew_mods h.2⟩
theorem trims_any (s : List UInt8) (c : UInt8) (hs : s.length ≤ 1000000) (W : World) : Calls Tryz.prog 88 #[str s, .string ⟨#[c]⟩] W fun e w => e = .returned (str (Lib.trimSuffix s [c])) ∧ w = W :=
  Tryz.strings_TrimSuffix ⟨s.toArray⟩ ⟨#[c]⟩ W (by rw [size_str]; omega)
theorem has_any (s : List UInt8) (c : UInt8) (hs : s.length ≤ 1000000) (W : World) : Calls Tryz.prog 90 #[str s, .string ⟨#[c]⟩] W fun e w => e = .returned (.bool (Lib.hasSuffix s [c])) ∧ w = W :=
  Tryz.strings_HasSuffix ⟨s.toArray⟩ ⟨#[c]⟩ W (by rw [size_str]; omega)
theorem cuts_any (s : List UInt8) (c : UInt8) (hs : s.length ≤ 1000000) (W : World) : Calls Tryz.prog 52 #[str s, .string ⟨#[c]⟩] W fun e w => e = .returned (.tuple #[str (Lib.trimSuffix s [c]), .bool (Lib.hasSuffix s [c])]) ∧ w = W :=
  Tryz.strings_CutSuffix ⟨s.toArray⟩ ⟨#[c]⟩ W (by rw [size_str]; omega)
theorem cut_any (s : List UInt8) (c : UInt8) (hs : s.length ≤ 1000000) (W : World) (hB : Base W) : Calls Tryz.prog 53 #[str s, .string ⟨#[c]⟩] W fun e w => e = .returned (.tuple #[str (cutL c s).1, str (cutL c s).2.1, .bool (cutL c s).2.2]) ∧ Mods None W w := by
  obtain ⟨m, hm⟩ := hB.max
  have h := Tryz.strings_Cut ⟨s.toArray⟩ ⟨#[c]⟩ m W (by rw [size_str]; omega) hm
  simp only [List.toList_toArray] at h
  rw [cut_cutL] at h
  exact h.mono fun e w h => ⟨h.1, drewN_mods h.2⟩
theorem count_one (c : UInt8) : (n : Nat) → (s : List UInt8) → s.length ≤ n → Lib.count s [c] = s.count c
  | 0, s, h => by
    have : s = [] := List.eq_nil_of_length_eq_zero (by omega)
    subst this
    rfl
  | n + 1, s, h => by
    by_cases hc : c ∈ s
    · obtain ⟨a, b, rfl, hn⟩ := first_at s hc
      rw [Lib.count_hit (by simp) (index_app a b hn), List.length_singleton]
      have hd : (a ++ c :: b).drop (a.length + 1) = b := by rw [List.drop_append]; simp
      rw [hd, count_one c n b (by simp at h; omega), List.count_append, List.count_cons_self, List.count_eq_zero_of_not_mem hn]
      omega
    · rw [Lib.count_miss (index_none s hc), List.count_eq_zero_of_not_mem hc]
theorem splitB_L (c : UInt8) (s : List UInt8) : (Lib.splitB ⟨#[c]⟩ 0 (Lib.countB ⟨s.toArray⟩ ⟨#[c]⟩) ⟨s.toArray⟩).map Value.string = (splitL c s).map str ∧ Lib.countB ⟨s.toArray⟩ ⟨#[c]⟩ + 1 = (splitL c s).length := by
  have e : Lib.countB ⟨s.toArray⟩ ⟨#[c]⟩ = s.count c := by
    have := count_one c s.length s (Nat.le_refl _)
    simpa [Lib.countB] using this
  have h := Lib.splitB_data ⟨#[c]⟩ 0 (s.count c) ⟨s.toArray⟩
  simp only [List.toList_toArray] at h
  have h' : (Lib.splitB ⟨#[c]⟩ 0 (s.count c) ⟨s.toArray⟩).map (·.data.toList) = splitL c s := h.trans (splitK_splitL c (s.count c) s (Nat.le_refl _))
  have hl := Lib.splitB_all ⟨#[c]⟩ (Nat.le_refl 1) 0 _ ⟨s.toArray⟩ e
  refine ⟨?_, ?_⟩
  · rw [e, ← h', List.map_map]
    apply List.map_congr_left
    intro b _
    rfl
  · rw [e, ← h', List.length_map, hl]
theorem split_any (s : List UInt8) (c : UInt8) (hs : s.length ≤ 1000000) (W : World) (hB : Base W) : Calls Tryz.prog 31 #[str s, .string ⟨#[c]⟩] W fun e w => e = .returned (.slice (some ⟨W.heap.size, 0, none⟩) (splitL c s).length (splitL c s).length) ∧ w = W.alloc (.cells ((splitL c s).map str).toArray 9) := by
  obtain ⟨m, hm⟩ := hB.max
  have h := Tryz.strings_Split ⟨s.toArray⟩ ⟨#[c]⟩ m W (by rw [size_str]; omega) hm (Nat.le_refl 1)
  rw [(splitB_L c s).1, (splitB_L c s).2] at h
  exact h
theorem find_fin (n : List UInt8) : (zs : List (List UInt8)) → (i : Nat) → Lib.idxFromS (zs.map fun z => ⟨z.toArray⟩) ⟨n.toArray⟩ i = (match zs.findIdx? (fun m => m == n) with | some k => ((i + k : Nat) : Int) | none => -1)
  | [], i => rfl
  | z :: zs, i => by
    rw [List.map_cons, Lib.idxFromS, List.findIdx?_cons]
    by_cases h : z = n
    · subst h
      simp
    · have h1 : ¬ ((⟨z.toArray⟩ : ByteArray) = ⟨n.toArray⟩) := by
        intro e
        apply h
        have := congrArg (fun b : ByteArray => b.data.toList) e
        simpa using this
      have h2 : (z == n) = false := by simpa using h
      rw [if_neg h1, find_fin n zs (i + 1), h2]
      cases zs.findIdx? (fun m => m == n) with
      | none => rfl
      | some k =>
        show ((i + 1 + k : Nat) : Int) = ((i + (k + 1) : Nat) : Int)
        congr 1
        omega
theorem names_any (n : List UInt8) (W : World) (hB : Base W) : Calls Tryz.prog 54 #[.slice (some ⟨1, 0, none⟩) 32 32, str n] W fun e w => e = .returned (.int .i64 (opOf n)) ∧ w = W := by
  have h := Tryz.slices_Index_string 1 0 32 32 (nameList.map fun z => ⟨z.toArray⟩) ⟨n.toArray⟩ W (by rw [List.length_map]; decide) (by decide) (by
    intro j hj
    rw [List.length_map] at hj
    have := hB.names j _ (List.getElem?_eq_getElem hj)
    rw [List.getD_eq_getElem?_getD, List.getElem?_map, List.getElem?_eq_getElem hj]
    simpa [Addr.add, str] using this)
  have ht : (nameList.map fun z => (⟨z.toArray⟩ : ByteArray)).take 32 = nameList.map fun z => ⟨z.toArray⟩ := by
    apply List.take_of_length_le
    rw [List.length_map]; decide
  rw [ht] at h
  have e : Lib.idxOfS (nameList.map fun z => ⟨z.toArray⟩) ⟨n.toArray⟩ = opOf n := by
    unfold Lib.idxOfS opOf
    rw [find_fin n nameList 0]
    cases nameList.findIdx? (fun m => m == n) with
    | none => rfl
    | some k => simp
  rw [e] at h
  exact h
end Go.Proofs.YtodgkbcgdbhpeaaGreatDoor.AsmP

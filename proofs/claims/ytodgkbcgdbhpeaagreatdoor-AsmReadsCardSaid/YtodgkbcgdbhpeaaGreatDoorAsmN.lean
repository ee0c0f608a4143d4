/- Names of places: asm.Name. Conditions: none. -/
import Derived.Test.YtodgkbcgdbhpeaaGreatDoorAsmA
namespace Go.Proofs.YtodgkbcgdbhpeaaGreatDoor.AsmP
open Go.RowKit Go.Proofs.YtodgkbcgdbhpeaaGreatDoor.WordP Go.Proofs.YtodgkbcgdbhpeaaGreatDoor.Wo
set_option linter.unusedVariables false
set_option linter.unusedSimpArgs false
def letterL : List UInt8 := [97, 98, 99, 100, 101, 102, 103, 104, 105, 106, 107, 108, 109, 110, 111, 112, 113, 114, 115, 116, 117, 118, 119, 120, 121, 122]
def nameL : List UInt8 := [97, 98, 99, 100, 101, 102, 103, 104, 105, 106, 107, 108, 109, 110, 111, 112, 113, 114, 115, 116, 117, 118, 119, 120, 121, 122, 48, 49, 50, 51, 52, 53, 54, 55, 56, 57, 95, 46]
theorem letter_fin : ∀ i : Fin 256, decide (0 ≤ Lib.indexByte letterL (UInt8.ofNat i.val)) = lowB (UInt8.ofNat i.val) := by decide +kernel
theorem name_fin : ∀ i : Fin 256, nameL.contains (UInt8.ofNat i.val) = nameC (UInt8.ofNat i.val) := by decide +kernel
theorem letter_is (c : UInt8) : decide (0 ≤ Lib.indexByte letterL c) = lowB c := by
  have h := letter_fin ⟨c.toNat, c.toNat_lt⟩
  simpa using h
theorem name_is (c : UInt8) : nameL.contains c = nameC c := by
  have h := name_fin ⟨c.toNat, c.toNat_lt⟩
  simpa using h
theorem drop_all (p : UInt8 → Bool) (l : List UInt8) : l.dropWhile p = [] ↔ l.all p = true := by
  induction l with
  | nil => simp
  | cons c r ih =>
    rw [List.dropWhile_cons, List.all_cons]
    by_cases h : p c = true
    · rw [if_pos h, h, ih]; simp
    · rw [if_neg h]; simp [h]
theorem drop_head (p : UInt8 → Bool) (l : List UInt8) (c : UInt8) (r : List UInt8) (h : l.dropWhile p = c :: r) : p c = false := by
  induction l with
  | nil => simp at h
  | cons d r ih =>
    rw [List.dropWhile_cons] at h
    by_cases hd : p d = true
    · rw [if_pos hd] at h; exact ih h
    · rw [if_neg hd] at h
      obtain ⟨rfl, -⟩ := List.cons.inj h
      simpa using hd
theorem trim_all (s : List UInt8) : Lib.trimS s nameL = [] ↔ s.all nameC = true := by
  have hp : (fun c => nameL.contains c) = nameC := funext name_is
  unfold Lib.trimS Lib.trimLeftS Lib.trimRightS
  rw [hp, drop_all]
  constructor
  · intro h
    cases hq : s.reverse.dropWhile nameC with
    | nil =>
      rw [drop_all] at hq
      simpa using hq
    | cons c r =>
      have h1 := drop_head nameC _ c r hq
      rw [hq] at h
      rw [List.all_eq_true] at h
      have := h c (by simp)
      rw [h1] at this; cases this
  · intro h
    have : s.reverse.dropWhile nameC = [] := by rw [drop_all]; simpa using h
    rw [this]; rfl
theorem trim_any (s : List UInt8) (hs : s.length ≤ 1000000) (W : World) :
    Calls Tryz.prog 32 #[str s, .string ⟨#[97, 98, 99, 100, 101, 102, 103, 104, 105, 106, 107, 108, 109, 110, 111, 112, 113, 114, 115, 116, 117, 118, 119, 120, 121, 122, 48, 49, 50, 51, 52, 53, 54, 55, 56, 57, 95, 46]⟩] W fun e w => e = .returned (str (Lib.trimS s nameL)) ∧ Mods None W w := by
  have hsz : (⟨s.toArray⟩ : ByteArray).size = s.length := by simp [ByteArray.size]
  refine (Any.strings_Trim_laid Tryz.lays160 (by kernel_rfl) ⟨s.toArray⟩ ⟨#[97, 98, 99, 100, 101, 102, 103, 104, 105, 106, 107, 108, 109, 110, 111, 112, 113, 114, 115, 116, 117, 118, 119, 120, 121, 122, 48, 49, 50, 51, 52, 53, 54, 55, 56, 57, 95, 46]⟩ W (by rw [hsz]; omega) (by decide) (ascii_of_all (by decide))).mono ?_
  rintro e w ⟨rfl, hb⟩
  exact ⟨rfl, Mods.of_below hb⟩
set_option maxRecDepth 100000 in
set_option maxHeartbeats 1000000 in
theorem name_any (s : List UInt8) (hs : s.length ≤ 1000000) (W : World) : Calls Tryz.prog 16 #[str s] W fun e w => e = .returned (.bool (nameB s)) ∧ Mods None W w := by
  cases hs0 : s with
  | nil =>
    unfold str
    go_enter Tryz.func16, Tryz.ntmps16
    go_wp2_with fail
    go_ret
    exact ⟨rfl, Mods.refl _ _⟩
  | cons c r =>
    have hT := trim_any (c :: r) (by rw [← hs0]; exact hs) W
    have hI : Calls Tryz.prog 36 #[.string ⟨#[97, 98, 99, 100, 101, 102, 103, 104, 105, 106, 107, 108, 109, 110, 111, 112, 113, 114, 115, 116, 117, 118, 119, 120, 121, 122]⟩, .int .u8 c.toNat] W fun e w' => e = .returned (.int .i64 (Lib.indexByte letterL c)) ∧ w' = W := by
      have h := Tryz.strings_IndexByte ⟨#[97, 98, 99, 100, 101, 102, 103, 104, 105, 106, 107, 108, 109, 110, 111, 112, 113, 114, 115, 116, 117, 118, 119, 120, 121, 122]⟩ c.toNat W
      have e : (c.toNat : Int).toNat.toUInt8 = c := by simp
      rw [e] at h
      exact h
    have hl := letter_is c
    obtain ⟨ix, hix⟩ : ∃ ix, ix = Lib.indexByte letterL c := ⟨_, rfl⟩
    rw [← hix] at hI hl
    have HI := Lib.hid hI
    have HT := Lib.hid hT
    have HS := Lib.hid hs0
    clear hI hT hix
    by_cases h24 : s.length ≤ 24
    · have h24i : (r.length : Int) + 1 ≤ 24 := by rw [hs0] at h24; simp at h24; omega
      have hn : nameB (c :: r) = (lowB c && (c :: r).all nameC) := by
        unfold nameB
        rw [hs0] at h24
        simp only [decide_eq_true h24, Bool.true_and]
      rw [hn, ← hl]
      clear hs0 h24 hn hl
      unfold str at HT ⊢
      by_cases h0 : 0 ≤ ix
      · have hd0 : decide (0 ≤ ix) = true := decide_eq_true h0
        rw [hd0]
        go_enter Tryz.func16, Tryz.ntmps16
        go_wp2_with fail
        refine HI.out.mono ?_
        rintro e w1 ⟨rfl, rfl⟩
        go_wp2_with fail
        refine HT.out.mono ?_
        rintro e w2 ⟨rfl, hm2⟩
        have HM2 := Lib.hid hm2
        clear hm2
        go_wp2_with fail
        go_ret
        refine ⟨?_, HM2.out⟩
        have : (Lib.trimS (c :: r) nameL).isEmpty = (c :: r).all nameC := by
          rw [Bool.eq_iff_iff, List.isEmpty_iff]
          exact trim_all (c :: r)
        rw [this, Bool.true_and]
        rfl
      · have hd0 : decide (0 ≤ ix) = false := decide_eq_false h0
        rw [hd0]
        go_enter Tryz.func16, Tryz.ntmps16
        go_wp2_with fail
        refine HI.out.mono ?_
        rintro e w1 ⟨rfl, rfl⟩
        go_wp2_with fail
        go_ret
        exact ⟨rfl, Mods.refl _ _⟩
    · rw [← hs0]
      clear HI HT HS hl
      have h24i : ¬ (s.length : Int) ≤ 24 := by omega
      have hne : ¬ s = [] := by rw [hs0]; simp
      have hb : nameB s = false := by
        unfold nameB
        simp only [Bool.and_eq_false_imp, decide_eq_false_iff_not, Bool.and_eq_true]
        rintro ⟨h, -⟩
        simp at h; omega
      rw [hb]
      clear hs0 hb
      unfold str
      go_enter Tryz.func16, Tryz.ntmps16
      go_wp2_with fail
      go_ret
      exact ⟨rfl, Mods.refl _ _⟩
end Go.Proofs.YtodgkbcgdbhpeaaGreatDoor.AsmP

/- How many steps there are. Conditions: what is asked lies; there are not too many. -/
import Derived.Test.YtnicpmoanjddbaaGreatDoorMidCode
namespace Go.Proofs.YtnicpmoanjddbaaGreatDoor.MidP
open Go.RowKit Go.Proofs.YtnicpmoanjddbaaGreatDoor.Wo Go.Maps Go.Proofs.YtnicpmoanjddbaaGreatDoor.TreeP
set_option linter.unusedVariables false
set_option linter.unusedSimpArgs false
def stepsN : List Fm → Nat
  | [] => 0
  | f :: r => f.steps.length + stepsN r
theorem stepsN_take : (L : List Fm) → (i : Nat) → (f : Fm) → L[i]? = some f → stepsN (L.take (i + 1)) = stepsN (L.take i) + f.steps.length
  | [], i, f, h => by simp at h
  | a :: r, 0, f, h => by
    simp only [List.getElem?_cons_zero, Option.some.injEq] at h
    subst h
    simp [stepsN]
  | a :: r, i + 1, f, h => by
    have := stepsN_take r i f (by simpa using h)
    simp only [List.take_succ_cons, stepsN] at this ⊢
    omega
theorem stepsN_le : (L : List Fm) → (i : Nat) → stepsN (L.take i) ≤ stepsN L
  | [], i => by simp [stepsN]
  | a :: r, 0 => by simp [stepsN]
  | a :: r, i + 1 => by
    have := stepsN_le r i
    simp only [List.take_succ_cons, stepsN]
    omega
set_option maxRecDepth 100000 in
set_option maxHeartbeats 1000000 in
theorem steps_any (L : List Fm) (cb : Nat) (lv : Value) (W : World) (hcb : W.cell? ⟨cb, 0, none⟩ = some lv) (hL : FmsAt W None lv L) (hb : stepsN L ≤ 1000000000) :
    Calls Tryz.prog 18 #[.pointer (some ⟨cb, 0, none⟩)] W fun e w => e = .returned (.int .i64 (stepsN L)) ∧ Mods None W w := by
  have HALL := Lib.hid (fun (w : World) (hm : Mods None W w) => hL.mods hm (fun _ _ k => k))
  obtain ⟨la, lc, rfl, hlc1, hlc2, -⟩ := hL.form
  obtain ⟨n, hn⟩ : ∃ n, n = L.length := ⟨_, rfl⟩
  have HN := Lib.hid hn
  have HB := Lib.hid hb
  rw [← hn] at hcb hlc1
  clear hL hn hb
  go_enter Tryz.func18, Tryz.ntmps18
  go_wp2_with fail
  clear hcb
  go_loopw [3, 5, 11] (fun av _ iv wr => ∃ (i m : Nat), i ≤ n ∧ iv = .int .i64 i ∧ av = .int .i64 m ∧ Hid (m = stepsN (L.take i)) ∧ Hid (Mods None W wr)) (fun _ _ iv _ => (n - intOf iv).toNat)
  case atStart => exact ⟨0, 0, Nat.zero_le _, rfl, rfl, Lib.hid (by simp [stepsN]), Lib.hid (Mods.refl _ _)⟩
  case round =>
    obtain ⟨i, m, hi, rfl, rfl, HS, HM⟩ := hrel
    by_cases hlt : i < n
    · have hil : i < L.length := by have := HN.out; omega
      obtain ⟨g, o, ta, tc, sa, sc, rfl, c0, c1, c2, c3, -, -⟩ := (HALL.out wr HM.out).get hil
      obtain ⟨f, hf⟩ : ∃ f, L[i]? = some f := ⟨_, List.getElem?_eq_getElem hil⟩
      have hfe : L[i] = f := by
        obtain ⟨h1, h2⟩ := List.getElem?_eq_some_iff.1 hf
        exact h2
      rw [hfe] at c0 c1 c2 c3
      have hst := stepsN_take L i f hf
      have hle := stepsN_le L (i + 1)
      obtain ⟨sn, hsn⟩ : ∃ sn, sn = f.steps.length := ⟨_, rfl⟩
      rw [← hsn] at c3 hst
      have hbound : m + sn ≤ 1000000000 := by have h1 := HB.out; have h2 := HS.out; omega
      have HST : Hid (m + sn = stepsN (L.take (i + 1))) := Lib.hid (by rw [hst, HS.out])
      have hw : IntKind.i64.wrap ((m : Int) + (sn : Int)) = ((m + sn : Nat) : Int) := by rw [IntWalk.i64_in _ (by omega)]; omega
      have hpi : (i : Int) < (n : Int) := by omega
      have HM5 : ∀ o, Hid (Mods None W (wr.alloc o)) := fun o => Lib.hid (HM.out.trans ((Mods.refl _ _).alloc _))
      unfold str at *
      clear hf hfe hst hle hsn hil HS
      go_wp2_with fail
      exact ⟨⟨i + 1, m + sn, by omega, by go_num, by go_num, HST, HM5 _⟩, by simp [intOf]; omega⟩
    · obtain rfl : i = n := by omega
      have HF : Hid (m = stepsN L) := Lib.hid (by rw [HS.out, HN.out, List.take_length])
      have hpi : ¬ (i : Int) < (i : Int) := by omega
      go_wp2_with fail
      go_ret
      rw [HF.out]
      exact ⟨rfl, HM.out⟩
end Go.Proofs.YtnicpmoanjddbaaGreatDoor.MidP

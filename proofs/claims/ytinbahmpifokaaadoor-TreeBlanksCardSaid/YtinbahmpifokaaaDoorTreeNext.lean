/- What stands at a text's beginning. Conditions: that the marks lie as the program lays them. -/
import Derived.Test.YtinbahmpifokaaaDoorTreeLexLow
import Derived.Test.YtinbahmpifokaaaDoorTreeAt
import Derived.Test.YtinbahmpifokaaaDoorShelf
namespace Go.Proofs.YtinbahmpifokaaaDoor.TreeP
open Go.RowKit Go.Proofs.YtinbahmpifokaaaDoor.Wo
set_option linter.unusedVariables false
set_option linter.unusedSimpArgs false
/-- The marks lie. -/
def Marks (W : World) : Prop := ∀ (i : Nat) (m : List UInt8), markList[i]? = some m → W.cell? ⟨1, i, none⟩ = some (str m)
def wordB (x : UInt8) : Bool := letterB x || digitB x
theorem takeWhile_le (p : UInt8 → Bool) : (l : List UInt8) → (l.takeWhile p).length ≤ l.length
  | [] => Nat.le_refl _
  | c :: r => by
    simp only [List.takeWhile_cons]
    split
    · simp only [List.length_cons]; have := takeWhile_le p r; omega
    · simp
/-- Ahead of the end of a run the bytes are of it; behind it one is not. -/
theorem run_at (p : UInt8 → Bool) : (l : List UInt8) → (n : Nat) → n ≤ (l.takeWhile p).length → (n < (l.takeWhile p).length → ∃ c, l[n]? = some c ∧ p c = true) ∧ (n = (l.takeWhile p).length → n < l.length → ∃ c, l[n]? = some c ∧ p c = false)
  | [], n, h => by simp
  | c :: r, n, h => by
    simp only [List.takeWhile_cons] at h ⊢
    cases hp : p c with
    | false =>
      rw [hp] at h
      simp only [Bool.false_eq_true, if_false, List.length_nil, Nat.le_zero] at h ⊢
      subst h
      exact ⟨fun h => absurd h (Nat.lt_irrefl _), fun _ _ => ⟨c, rfl, hp⟩⟩
    | true =>
      rw [hp] at h
      simp only [if_true, List.length_cons] at h ⊢
      cases n with
      | zero => exact ⟨fun _ => ⟨c, rfl, hp⟩, fun h => by omega⟩
      | succ n =>
        have ih := run_at p r n (by omega)
        exact ⟨fun h => ih.1 (by omega), fun h1 h2 => ih.2 (by omega) (by omega)⟩
set_option maxRecDepth 100000 in
set_option maxHeartbeats 1600000 in
theorem next_word (c : UInt8) (r : List UInt8) (W : World) (hlen : (c :: r).length ≤ 10000000) (h : letterB c = true) :
    Calls Tryd.prog 20 #[str (c :: r)] W fun e W' => e = .returned (.tuple #[.int .i64 1, .int .i64 (((c :: r).takeWhile wordB).length : Nat)]) ∧ W = W' := by
  have HL := Lib.hid (fun (d : UInt8) (W1 : World) => letter_any d W1)
  have HD := Lib.hid (fun (d : UInt8) (W1 : World) => digit_any d W1)
  have h0 := str_at0 (c := c) (r := r) W
  have HC := Lib.hid h
  obtain ⟨l, hl⟩ : ∃ l, l = c :: r := ⟨_, rfl⟩
  obtain ⟨k, hk⟩ : ∃ k, k = (l.takeWhile wordB).length := ⟨_, rfl⟩
  have hkl : k ≤ l.length := by rw [hk]; exact takeWhile_le _ _
  have HA := Lib.hid (fun n => run_at wordB l n)
  rw [← hk] at HA
  rw [← hl] at h0 hlen ⊢
  rw [← hk]
  unfold str
  clear h hl hk
  go_enter Tryd.func20, Tryd.ntmps20
  go_wp2_with fail
  go_at_call 32
  refine (HL.out c W).mono ?_
  rintro e w ⟨rfl, rfl⟩
  rw [HC.out]
  go_wp2_with fail
  go_loopw [3] (fun v wr => ∃ n : Nat, n ≤ k ∧ v = .int .i64 n ∧ Hid (W = wr)) (fun v _ => (k - intOf v).toNat)
  case atStart => exact ⟨0, by omega, rfl, Lib.hid (by first | trivial | rfl)⟩
  case round =>
    obtain ⟨n, hn, rfl, hw⟩ := hrel
    obtain rfl := hw.out
    clear hw
    by_cases hlt : n < k
    · obtain ⟨d, hd1, hd2⟩ := (HA.out n hn).1 hlt
      have hnl : (n : Int) < (l.length : Int) := by omega
      have hix := str_at hd1 W
      clear hd1
      cases hL : letterB d
      · have hD : digitB d = true := by simpa [wordB, hL] using hd2
        clear hd2
        have HLd := Lib.hid hL
        have HDd := Lib.hid hD
        clear hL hD
        go_wp2_with (first | (go_at_call 32; refine (HL.out d W).mono ?_; rintro e w ⟨rfl, rfl⟩; rw [HLd.out]) | (go_at_call 33; refine (HD.out d W).mono ?_; rintro e w ⟨rfl, rfl⟩; rw [HDd.out]))
        exact ⟨⟨n + 1, by omega, by go_num, Lib.hid (by first | trivial | rfl)⟩, by simp [intOf]; omega⟩
      · have HLd := Lib.hid hL
        clear hL hd2
        go_wp2_with (go_at_call 32; refine (HL.out d W).mono ?_; rintro e w ⟨rfl, rfl⟩; rw [HLd.out])
        exact ⟨⟨n + 1, by omega, by go_num, Lib.hid (by first | trivial | rfl)⟩, by simp [intOf]; omega⟩
    · obtain rfl : n = k := by omega
      by_cases hnl : n < l.length
      · obtain ⟨d, hd1, hd2⟩ := (HA.out n hn).2 rfl hnl
        have hnl : (n : Int) < (l.length : Int) := by omega
        have hix := str_at hd1 W
        have hLD : letterB d = false ∧ digitB d = false := by simpa [wordB] using hd2
        have HLd := Lib.hid hLD.1
        have HDd := Lib.hid hLD.2
        clear hd1 hd2 hLD
        go_wp2_with (first | (go_at_call 32; refine (HL.out d W).mono ?_; rintro e w ⟨rfl, rfl⟩; rw [HLd.out]) | (go_at_call 33; refine (HD.out d W).mono ?_; rintro e w ⟨rfl, rfl⟩; rw [HDd.out]))
        go_ret2
        exact ⟨rfl, rfl⟩
      · have hnl : ¬ (n : Int) < (l.length : Int) := by omega
        go_wp2
        go_ret2
        exact ⟨rfl, rfl⟩
set_option maxRecDepth 100000 in
set_option maxHeartbeats 1600000 in
theorem next_num (c : UInt8) (r : List UInt8) (W : World) (hlen : (c :: r).length ≤ 10000000) (h1 : letterB c = false) (h : digitB c = true) :
    Calls Tryd.prog 20 #[str (c :: r)] W fun e W' => e = .returned (.tuple #[.int .i64 2, .int .i64 (((c :: r).takeWhile digitB).length : Nat)]) ∧ W = W' := by
  have HL := Lib.hid (fun (d : UInt8) (W1 : World) => letter_any d W1)
  have HD := Lib.hid (fun (d : UInt8) (W1 : World) => digit_any d W1)
  have h0 := str_at0 (c := c) (r := r) W
  have HC := Lib.hid h
  have HC1 := Lib.hid h1
  obtain ⟨l, hl⟩ : ∃ l, l = c :: r := ⟨_, rfl⟩
  obtain ⟨k, hk⟩ : ∃ k, k = (l.takeWhile digitB).length := ⟨_, rfl⟩
  have hkl : k ≤ l.length := by rw [hk]; exact takeWhile_le _ _
  have HA := Lib.hid (fun n => run_at digitB l n)
  rw [← hk] at HA
  rw [← hl] at h0 hlen ⊢
  rw [← hk]
  unfold str
  clear h h1 hl hk
  go_enter Tryd.func20, Tryd.ntmps20
  go_wp2_with (first | (go_at_call 32; refine (HL.out c W).mono ?_; rintro e w ⟨rfl, rfl⟩; rw [HC1.out]) | (go_at_call 33; refine (HD.out c W).mono ?_; rintro e w ⟨rfl, rfl⟩; rw [HC.out]))
  go_loopw [3] (fun v wr => ∃ n : Nat, n ≤ k ∧ v = .int .i64 n ∧ Hid (W = wr)) (fun v _ => (k - intOf v).toNat)
  case atStart => exact ⟨0, by omega, rfl, Lib.hid (by first | trivial | rfl)⟩
  case round =>
    obtain ⟨n, hn, rfl, hw⟩ := hrel
    obtain rfl := hw.out
    clear hw
    by_cases hlt : n < k
    · obtain ⟨d, hd1, hd2⟩ := (HA.out n hn).1 hlt
      have hnl : (n : Int) < (l.length : Int) := by omega
      have hix := str_at hd1 W
      have HDd := Lib.hid hd2
      clear hd1 hd2
      go_wp2_with (go_at_call 33; refine (HD.out d W).mono ?_; rintro e w ⟨rfl, rfl⟩; rw [HDd.out])
      exact ⟨⟨n + 1, by omega, by go_num, Lib.hid (by first | trivial | rfl)⟩, by simp [intOf]; omega⟩
    · obtain rfl : n = k := by omega
      by_cases hnl : n < l.length
      · obtain ⟨d, hd1, hd2⟩ := (HA.out n hn).2 rfl hnl
        have hnl : (n : Int) < (l.length : Int) := by omega
        have hix := str_at hd1 W
        have HDd := Lib.hid hd2
        clear hd1 hd2
        go_wp2_with (go_at_call 33; refine (HD.out d W).mono ?_; rintro e w ⟨rfl, rfl⟩; rw [HDd.out])
        go_ret2
        exact ⟨rfl, rfl⟩
      · have hnl : ¬ (n : Int) < (l.length : Int) := by omega
        go_wp2
        go_ret2
        exact ⟨rfl, rfl⟩
end Go.Proofs.YtinbahmpifokaaaDoor.TreeP

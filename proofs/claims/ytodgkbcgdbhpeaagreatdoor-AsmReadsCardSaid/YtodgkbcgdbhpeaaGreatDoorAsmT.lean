/- Numbers and names as text, plainly: how they are written, and that they are read so. No program in sight. No conditions. -/
import Derived.WalkKit
import Derived.Lib.ItoaNum
import Derived.Lib.Join
import Derived.Lib.Split
import Derived.Lib.SplitLaws
import Derived.Lib.TrimByte
import Derived.Lib.SlTrimSet
import Derived.Lib.AtoiAllCases
import Derived.Lib.ParseIntBTie
import Derived.Lib.CountLaws
import Derived.Lib.CutLaws
namespace Go.Proofs.YtodgkbcgdbhpeaaGreatDoor.AsmP
open Go.RowKit
set_option linter.unusedVariables false
set_option linter.unusedSimpArgs false
def lowB (c : UInt8) : Bool := decide (97 ≤ c.toNat) && decide (c.toNat ≤ 122)
def digB (c : UInt8) : Bool := decide (48 ≤ c.toNat) && decide (c.toNat ≤ 57)
/-- A letter of a written number. -/
def numC (c : UInt8) : Bool := digB c || c == 45
theorem u8_48 (i : Nat) (h : i < 10) : (UInt8.ofNat (48 + i)).toNat = 48 + i := by
  rw [UInt8.toNat_ofNat']; omega
theorem dig_48 (i : Nat) (h : i < 10) : digB (UInt8.ofNat (48 + i)) = true := by
  unfold digB
  rw [u8_48 i h]
  simp; omega
theorem dec_dig (u : Nat) : (Lib.decDigits u).all digB = true := by
  induction u using Nat.strongRecOn with
  | _ u ih =>
    rw [Lib.decDigits]
    split
    · rename_i h
      rw [List.all_cons, dig_48 u h]; rfl
    · rename_i h
      rw [List.all_append, ih (u / 10) (by omega), List.all_cons, dig_48 (u % 10) (by omega)]
      rfl
theorem dec_ne (u : Nat) : Lib.decDigits u ≠ [] := by
  rw [Lib.decDigits]
  split <;> simp
theorem itoa_num (n : Int) : (Lib.itoa n).all numC = true := by
  have key : ∀ u, (Lib.decDigits u).all numC = true := fun u => by
    have := dec_dig u
    rw [List.all_eq_true] at this ⊢
    intro x hx
    unfold numC
    rw [this x hx]; rfl
  unfold Lib.itoa
  split
  · rw [List.all_cons, key]; decide
  · exact key _
theorem itoa_ne (n : Int) : Lib.itoa n ≠ [] := by
  unfold Lib.itoa
  split
  · simp
  · exact dec_ne _
/-- Digits behind what is read. -/
theorem uint_app : (l : List UInt8) → (acc u v : Nat) → (d : Nat) → d < 10 → Lib.parseUint10 acc l = .ok u → v = u * 10 + d → v < 18446744073709551616 → Lib.parseUint10 acc (l ++ [UInt8.ofNat (48 + d)]) = .ok v
  | [], acc, u, v, d, hd, h, hv, hlt => by
    simp only [Lib.parseUint10, Lib.NumEnd.ok.injEq] at h
    subst h
    simp only [List.nil_append, Lib.parseUint10]
    rw [u8_48 d hd, if_pos (by omega), if_neg (by omega), if_neg (by omega)]
    congr 1
    omega
  | c :: r, acc, u, v, d, hd, h, hv, hlt => by
    simp only [List.cons_append, Lib.parseUint10] at h ⊢
    split at h
    · rename_i h1
      rw [if_pos h1]
      split at h
      · cases h
      · rename_i h2
        rw [if_neg h2]
        split at h
        · cases h
        · rename_i h3
          rw [if_neg h3]
          exact uint_app r _ u v d hd h hv hlt
    · cases h
theorem dec_uint (u : Nat) (h : u < 18446744073709551616) : Lib.parseUint10 0 (Lib.decDigits u) = .ok u := by
  induction u using Nat.strongRecOn with
  | _ u ih =>
    rw [Lib.decDigits]
    split
    · rename_i h1
      have := uint_app [] 0 0 u u h1 rfl (by omega) h
      simpa using this
    · rename_i h1
      exact uint_app _ 0 (u / 10) u (u % 10) (by omega) (ih (u / 10) (by omega) (by omega)) (by omega) h
theorem dec_mag (u : Nat) (h : u < 18446744073709551616) : Lib.parseMag (Lib.decDigits u) = .ok u := by
  unfold Lib.parseMag
  rw [if_neg (dec_ne u), dec_uint u h]
/-- A number that is written is read so. -/
theorem atoi_itoa {n : Int} (h1 : -9223372036854775808 ≤ n) (h2 : n ≤ 9223372036854775807) : Lib.atoiAll (Lib.itoa n) = .ok n := by
  unfold Lib.itoa
  split
  · rw [Lib.atoiAll_minus, dec_mag _ (by omega)]
    simp only [Lib.signed]
    rw [if_neg (by omega)]
    congr 1
    omega
  · obtain ⟨c, r, hc⟩ : ∃ c r, Lib.decDigits n.toNat = c :: r := by
      cases hd : Lib.decDigits n.toNat with
      | nil => exact absurd hd (dec_ne _)
      | cons c r => exact ⟨c, r, rfl⟩
    have hdig := dec_dig n.toNat
    rw [hc, List.all_cons, Bool.and_eq_true] at hdig
    have hcd : 48 ≤ c.toNat ∧ c.toNat ≤ 57 := by have := hdig.1; simp only [digB, Bool.and_eq_true, decide_eq_true_eq] at this; exact this
    rw [hc, Lib.atoiAll_plain c r (by omega) (by omega), ← hc, dec_mag _ (by omega)]
    simp only [Lib.signless]
    rw [if_neg (by omega)]
    congr 1
    omega
/-- A number as it is written, and none else. -/
def numR (s : List UInt8) : Option Int := match Lib.parseIntB 64 s with
  | .ok n => if Lib.itoa n = s then some n else none
  | _ => none
def regR (s : List UInt8) : Option Int := match s with
  | c :: t => if c = 120 then (match Lib.atoiAll t with
    | .ok n => if 0 ≤ n ∧ n < 32 ∧ Lib.itoa n = t then some n else none
    | _ => none) else none
  | [] => none
def regT (n : Int) : List UInt8 := 120 :: Lib.itoa n
theorem numR_itoa {n : Int} (h1 : -9223372036854775808 ≤ n) (h2 : n ≤ 9223372036854775807) : numR (Lib.itoa n) = some n := by
  unfold numR
  rw [Lib.parseIntB_64, atoi_itoa h1 h2]
  simp
theorem regR_regT {n : Int} (h1 : 0 ≤ n) (h2 : n < 32) : regR (regT n) = some n := by
  unfold regR regT
  simp only [if_true]
  rw [atoi_itoa (by omega) (by omega)]
  simp only
  rw [if_pos ⟨h1, h2, trivial⟩]
/-- Neither a number nor out of range. -/
def BadN {α : Type} (r : Lib.NumEnd α) : Prop := (∀ n, r ≠ .ok n) ∧ r ≠ .range
/-! Cut at a letter. -/
def splitL (c : UInt8) : List UInt8 → List (List UInt8)
  | [] => [[]]
  | b :: r => if b = c then [] :: splitL c r else match splitL c r with
    | [] => [[b]]
    | p :: ps => (b :: p) :: ps
theorem splitL_ne (c : UInt8) (s : List UInt8) : splitL c s ≠ [] := by
  cases s with
  | nil => simp [splitL]
  | cons b r =>
    simp only [splitL]
    split
    · simp
    · split <;> simp
theorem splitL_none {c : UInt8} : (s : List UInt8) → c ∉ s → splitL c s = [s]
  | [], _ => rfl
  | b :: r, h => by
    simp only [List.mem_cons, not_or] at h
    simp only [splitL]
    rw [if_neg (fun e => h.1 e.symm), splitL_none r h.2]
theorem splitL_app {c : UInt8} : (a b : List UInt8) → c ∉ a → splitL c (a ++ c :: b) = a :: splitL c b
  | [], b, _ => by simp [splitL]
  | x :: a, b, h => by
    simp only [List.mem_cons, not_or] at h
    simp only [List.cons_append, splitL]
    rw [if_neg (fun e => h.1 e.symm), splitL_app a b h.2]
/-- The first place of a letter: what is ahead of it, what is behind. -/
def cutL (c : UInt8) (s : List UInt8) : List UInt8 × List UInt8 × Bool := if c ∈ s then (s.takeWhile (· != c), (s.dropWhile (· != c)).tail, true) else (s, [], false)
theorem first_at {c : UInt8} (s : List UInt8) (h : c ∈ s) : ∃ a b, s = a ++ c :: b ∧ c ∉ a := by
  induction s with
  | nil => cases h
  | cons x r ih =>
    by_cases hx : x = c
    · exact ⟨[], r, by simp [hx], by simp⟩
    · have : c ∈ r := by
        rcases List.mem_cons.1 h with h | h
        · exact absurd h.symm hx
        · exact h
      obtain ⟨a, b, e, hn⟩ := ih this
      exact ⟨x :: a, b, by rw [e]; rfl, by simp only [List.mem_cons, not_or]; exact ⟨fun e => hx e.symm, hn⟩⟩
theorem cutL_app {c : UInt8} {a b : List UInt8} (h : c ∉ a) : cutL c (a ++ c :: b) = (a, b, true) := by
  unfold cutL
  rw [if_pos (by simp)]
  have hall : ∀ l : List UInt8, c ∉ l → (l ++ c :: b).takeWhile (· != c) = l ∧ (l ++ c :: b).dropWhile (· != c) = c :: b := by
    intro l
    induction l with
    | nil => intro _; simp
    | cons x r ih =>
      intro hl
      simp only [List.mem_cons, not_or] at hl
      obtain ⟨i1, i2⟩ := ih hl.2
      have hx : (x != c) = true := by simpa using fun e => hl.1 e.symm
      simp only [List.cons_append, List.takeWhile_cons, List.dropWhile_cons, hx, if_true, i1, i2, and_self]
  rw [(hall a h).1, (hall a h).2]
  rfl
theorem cutL_none {c : UInt8} {s : List UInt8} (h : c ∉ s) : cutL c s = (s, [], false) := by
  unfold cutL
  rw [if_neg h]
theorem index_app {c : UInt8} : (a b : List UInt8) → c ∉ a → Lib.index (a ++ c :: b) [c] = a.length
  | [], b, _ => by simp [Lib.index, List.isPrefixOf]
  | x :: a, b, h => by
    simp only [List.mem_cons, not_or] at h
    have hx : (c == x) = false := by simpa using h.1
    simp only [List.cons_append, Lib.index, List.isPrefixOf, hx, Bool.false_and]
    rw [index_app a b h.2]
    rw [if_neg (by simp), if_neg (by simp)]
    simp only [List.length_cons]
    omega
theorem index_none {c : UInt8} : (s : List UInt8) → c ∉ s → Lib.index s [c] = -1
  | [], _ => by simp [Lib.index]
  | x :: a, h => by
    simp only [List.mem_cons, not_or] at h
    have hx : (c == x) = false := by simpa using h.1
    simp only [Lib.index, List.isPrefixOf, hx, Bool.false_and]
    rw [index_none a h.2]
    simp
theorem cut_cutL (c : UInt8) (s : List UInt8) : Lib.cut s [c] = cutL c s := by
  unfold Lib.cut
  by_cases h : c ∈ s
  · obtain ⟨a, b, rfl, hn⟩ := first_at s h
    rw [index_app a b hn, if_pos (by omega), cutL_app hn]
    simp
  · rw [index_none s h, if_neg (by omega), cutL_none h]
theorem splitK_splitL (c : UInt8) : (k : Nat) → (s : List UInt8) → s.count c ≤ k → Lib.splitK [c] 0 k s = splitL c s
  | 0, s, h => by
    have : c ∉ s := by rw [← List.count_eq_zero]; omega
    rw [splitL_none s this]
    rfl
  | k + 1, s, h => by
    unfold Lib.splitK
    by_cases hc : c ∈ s
    · obtain ⟨a, b, rfl, hn⟩ := first_at s hc
      rw [index_app a b hn, if_neg (by simp), splitL_app a b hn]
      simp only [Int.toNat_natCast, Nat.add_zero, List.length_singleton]
      rw [List.take_left' rfl]
      have hd : (a ++ c :: b).drop (a.length + 1) = b := by
        rw [List.drop_append]
        simp
      rw [hd, splitK_splitL c k b]
      rw [List.count_append, List.count_cons_self] at h
      omega
    · rw [index_none s hc, splitL_none s hc]
      simp
end Go.Proofs.YtodgkbcgdbhpeaaGreatDoor.AsmP

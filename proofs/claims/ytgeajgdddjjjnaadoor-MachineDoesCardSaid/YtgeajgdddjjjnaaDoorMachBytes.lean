/- Numbers as bytes, the least one first. No program in sight. No conditions. -/
import Derived.WalkKit
namespace Go.Proofs.YtgeajgdddjjjnaaDoor.MachP
open Go.RowKit
set_option linter.unusedVariables false
set_option linter.unusedSimpArgs false

/-- Whether so many bytes are there, at a multiple of them. -/
def rightM (len p n : Int) : Bool := decide (0 ≤ p) && decide (p ≤ len - n) && (p % n == 0)
/-- A number of bytes, the least one first. -/
def le : List Int → Int
  | [] => 0
  | b :: r => b + 256 * le r
/-- A number's bytes, so many, the least one first. -/
def digits : Nat → Int → List Int
  | 0, _ => []
  | k + 1, v => v % 256 :: digits k (v / 256)
/-- A list with another one written over it, from a place on. -/
def over (l : List Int) (p : Nat) (s : List Int) : List Int := l.take p ++ s ++ l.drop (p + s.length)
theorem le_bound : ∀ (l : List Int), (∀ b ∈ l, 0 ≤ b ∧ b < 256) → 0 ≤ le l ∧ le l < 256 ^ l.length
  | [], _ => by simp [le]
  | b :: r, h => by
    have h1 := le_bound r (fun x hx => h x (List.mem_cons_of_mem _ hx))
    have h2 := h b (List.mem_cons_self ..)
    simp only [le, List.length_cons, Int.pow_succ]
    omega
theorem digits_length : ∀ (k : Nat) (v : Int), (digits k v).length = k
  | 0, _ => rfl
  | k + 1, v => by simp [digits, digits_length k]
theorem digits_byte : ∀ (k : Nat) (v : Int), ∀ b ∈ digits k v, 0 ≤ b ∧ b < 256
  | 0, _, b, h => by simp [digits] at h
  | k + 1, v, b, h => by
    simp only [digits, List.mem_cons] at h
    rcases h with rfl | h
    · omega
    · exact digits_byte k _ b h
theorem le_digits : ∀ (k : Nat) (v : Int), 0 ≤ v → v < 256 ^ k → le (digits k v) = v
  | 0, v, h, h' => by simp [digits, le] at *; omega
  | k + 1, v, h, h' => by
    simp only [digits, le]
    rw [le_digits k (v / 256) (by omega) (by rw [Int.pow_succ] at h'; omega)]
    omega
theorem over_length (l : List Int) (p : Nat) (s : List Int) (h : p + s.length ≤ l.length) : (over l p s).length = l.length := by
  simp [over]; omega
theorem over_byte {l : List Int} {p : Nat} {s : List Int} (hl : ∀ b ∈ l, 0 ≤ b ∧ b < 256) (hs : ∀ b ∈ s, 0 ≤ b ∧ b < 256) : ∀ b ∈ over l p s, 0 ≤ b ∧ b < 256 := by
  intro b hb
  simp only [over, List.mem_append] at hb
  rcases hb with (hb | hb) | hb
  · exact hl b (List.mem_of_mem_take hb)
  · exact hs b hb
  · exact hl b (List.mem_of_mem_drop hb)
theorem rightM_parts {len p n : Int} (h : rightM len p n = true) : 0 ≤ p ∧ p + n ≤ len ∧ p % n = 0 := by
  simp [rightM] at h; omega
theorem le_drop {l : List Int} {j : Nat} (h1 : 1 ≤ j) (h : j ≤ l.length) : le (l.drop (j - 1)) = l.getD (j - 1) 0 + 256 * le (l.drop j) := by
  obtain ⟨i, rfl⟩ : ∃ i, j = i + 1 := ⟨j - 1, by omega⟩
  rw [Nat.add_sub_cancel, List.drop_eq_getElem_cons (by omega)]
  simp only [le, List.getD_eq_getElem?_getD, List.getElem?_eq_getElem (show i < l.length by omega), Option.getD_some]
theorem nat_or_byte (u x : Nat) (hx : x < 256) : u * 256 ||| x = u * 256 + x := by
  have h := Nat.two_pow_add_eq_or_of_lt (i := 8) (b := x) (by simpa using hx) u
  rw [Nat.mul_comm] at h
  exact h.symm
theorem or_byte {u x : Int} (h0 : 0 ≤ u) (h1 : u < 72057594037927936) (hx : 0 ≤ x ∧ x < 256) : bits .or .u64 (IntKind.u64.wrap (u * 256)) x = x + 256 * u := by
  obtain ⟨U, rfl⟩ := Int.eq_ofNat_of_zero_le h0
  obtain ⟨X, rfl⟩ := Int.eq_ofNat_of_zero_le hx.1
  rw [IntKind.wrap_u64, Int.emod_eq_of_lt (by omega) (by omega)]
  show IntKind.u64.wrap ((BitVec.ofInt 64 ((U : Int) * 256) ||| BitVec.ofInt 64 (X : Int)).toNat : Int) = _
  have e1 : BitVec.ofInt 64 ((U : Int) * 256) = BitVec.ofNat 64 (U * 256) := by
    rw [show ((U : Int) * 256) = ((U * 256 : Nat) : Int) by omega]; exact BitVec.ofInt_natCast ..
  have e2 : BitVec.ofInt 64 (X : Int) = BitVec.ofNat 64 X := BitVec.ofInt_natCast ..
  rw [e1, e2, BitVec.toNat_or, BitVec.toNat_ofNat, BitVec.toNat_ofNat, Nat.mod_eq_of_lt (by omega), Nat.mod_eq_of_lt (by omega), nat_or_byte _ _ (by omega), IntKind.wrap_u64]
  omega
theorem or_byte32 {u x : Int} (h0 : 0 ≤ u) (h1 : u < 16777216) (hx : 0 ≤ x ∧ x < 256) : bits .or .u32 (IntKind.u32.wrap (u * 256)) x = x + 256 * u := by
  obtain ⟨U, rfl⟩ := Int.eq_ofNat_of_zero_le h0
  obtain ⟨X, rfl⟩ := Int.eq_ofNat_of_zero_le hx.1
  rw [IntKind.wrap_u32, Int.emod_eq_of_lt (by omega) (by omega)]
  show IntKind.u32.wrap ((BitVec.ofInt 32 ((U : Int) * 256) ||| BitVec.ofInt 32 (X : Int)).toNat : Int) = _
  have e1 : BitVec.ofInt 32 ((U : Int) * 256) = BitVec.ofNat 32 (U * 256) := by
    rw [show ((U : Int) * 256) = ((U * 256 : Nat) : Int) by omega]; exact BitVec.ofInt_natCast ..
  have e2 : BitVec.ofInt 32 (X : Int) = BitVec.ofNat 32 X := BitVec.ofInt_natCast ..
  rw [e1, e2, BitVec.toNat_or, BitVec.toNat_ofNat, BitVec.toNat_ofNat, Nat.mod_eq_of_lt (by omega), Nat.mod_eq_of_lt (by omega), nat_or_byte _ _ (by omega), IntKind.wrap_u32]
  omega
theorem pow_mono {a b : Nat} (h : a ≤ b) : (256 : Int) ^ a ≤ 256 ^ b := by
  obtain ⟨c, rfl⟩ := Nat.exists_eq_add_of_le h
  clear h
  induction c with
  | zero => exact Int.le_refl _
  | succ c ih =>
    have h2 : (0 : Int) < 256 ^ (a + c) := Int.pow_pos (by decide)
    have h3 : (256 : Int) ^ (a + (c + 1)) = 256 ^ (a + c) * 256 := Int.pow_succ ..
    omega
theorem le_small {l : List Int} (h : ∀ b ∈ l, 0 ≤ b ∧ b < 256) {k : Nat} (hk : l.length ≤ k) : 0 ≤ le l ∧ le l < 256 ^ k := by
  have h1 := le_bound l h
  refine ⟨h1.1, Int.lt_of_lt_of_le h1.2 ?_⟩
  exact pow_mono hk
theorem mem_part {l : List Int} {i n : Nat} {P : Int → Prop} (h : ∀ b ∈ l, P b) : ∀ b ∈ (l.drop i).take n, P b := fun b hb => h b (List.mem_of_mem_drop (List.mem_of_mem_take hb))
theorem part_getD {l : List Int} {q n j : Nat} (hj : j < n) : ((l.drop q).take n).getD j 0 = l.getD (q + j) 0 := by
  simp only [List.getD_eq_getElem?_getD, List.getElem?_take_of_lt hj, List.getElem?_drop]
theorem part_length {l : List Int} {q n : Nat} (h : q + n ≤ l.length) : ((l.drop q).take n).length = n := by rw [List.length_take, List.length_drop]; omega
theorem getD_some {l : List Int} {i : Nat} (h : i < l.length) : l[i]? = some (l.getD i 0) := by simp [h]
theorem getD_mem {l : List Int} {i : Nat} (h : i < l.length) : l.getD i 0 ∈ l := by simp [h]
end Go.Proofs.YtgeajgdddjjjnaaDoor.MachP

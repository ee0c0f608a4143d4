/- Plain laws of words: a word is one instruction, and an instruction is its word's. No program in sight. -/
import Derived.Test.YtgeajgdddjjjnaaDoorWordPlain
namespace Go.Proofs.YtgeajgdddjjjnaaDoor.WordP
set_option linter.unusedSimpArgs false
open Go.RowKit
set_option linter.unusedVariables false

def kinds : List Int := [0, 82, 82, 82, 82, 82, 82, 82, 82, 82, 82, 82, 82, 82, 73, 73, 73, 73, 73, 72, 72, 72, 73, 73, 83, 66, 66, 66, 66, 85, 74, 69]
def lows : List Int := [0, 51, 51, 51, 51, 51, 51, 51, 51, 51, 51, 51, 51, 51, 19, 19, 19, 19, 19, 19, 19, 19, 3, 103, 35, 99, 99, 99, 99, 55, 111, 115]
def mids : List Int := [0, 0, 0, 0, 4, 6, 7, 6, 4, 2, 3, 1, 5, 5, 0, 7, 6, 4, 2, 1, 5, 5, 3, 0, 3, 0, 1, 4, 5, 0, 0, 0]
def highs : List Int := [0, 0, 32, 1, 1, 1, 0, 0, 0, 0, 0, 0, 0, 32, 0, 0, 0, 0, 0, 0, 0, 32, 0, 0, 0, 0, 0, 0, 0, 0, 0, 0]
def kindOf (op : Int) : Int := kinds.getD op.toNat 0
def lowOf (op : Int) : Int := lows.getD op.toNat 0
def midOf (op : Int) : Int := mids.getD op.toNat 0
def highOf (op : Int) : Int := highs.getD op.toNat 0

structure Ins where
  op : Int
  rd : Int
  ra : Int
  rb : Int
  n : Int
  deriving DecidableEq
def Ins.val (x : Ins) : Value := inst x.op x.rd x.ra x.rb x.n
def Ins.right (x : Ins) : Bool := rightB (kindOf x.op) x.op x.rd x.ra x.rb x.n
def Ins.word (x : Ins) : Int := rawE (kindOf x.op) x.rd x.ra x.rb x.n (lowOf x.op) (midOf x.op) (highOf x.op)
def ofWord (w op : Int) : Ins := ⟨op, rdOf (kindOf op) w, raOf (kindOf op) w, rbOf (kindOf op) w, nOf (kindOf op) w⟩
/-- Whether a word may be an op's, by what is the same in all of its words. -/
def likesB (k w m h : Int) : Bool :=
  if k = 82 then w / 4096 % 8 == m && w / 33554432 == h
  else if k = 72 then w / 4096 % 8 == m && w / 33554432 - w / 33554432 % 2 == h
  else if k = 85 ∨ k = 74 ∨ k = 69 then true
  else w / 4096 % 8 == m
def like (w op : Int) : Bool := lowOf op == w % 128 && likesB (kindOf op) w (midOf op) (highOf op)

structure TabOk (k l m h : Int) : Prop where
  hl : 0 ≤ l ∧ l < 128
  hm : 0 ≤ m ∧ m < 8
  hh : 0 ≤ h ∧ h < 128
  hz : k = 85 ∨ k = 74 ∨ k = 69 → m = 0
  he : k = 72 → h % 2 = 0
theorem tabB : ∀ i : Fin 32, (0 ≤ lowOf i.val ∧ lowOf i.val < 128) ∧ (0 ≤ midOf i.val ∧ midOf i.val < 8) ∧ (0 ≤ highOf i.val ∧ highOf i.val < 128) ∧ (kindOf i.val = 85 ∨ kindOf i.val = 74 ∨ kindOf i.val = 69 → midOf i.val = 0) ∧ (kindOf i.val = 72 → highOf i.val % 2 = 0) ∧
    (1 ≤ i.val → kindOf i.val = 82 ∨ kindOf i.val = 73 ∨ kindOf i.val = 72 ∨ kindOf i.val = 83 ∨ kindOf i.val = 66 ∨ kindOf i.val = 85 ∨ kindOf i.val = 74 ∨ (kindOf i.val = 69 ∧ i.val = 31)) := by decide +kernel
theorem tab_ok (op : Int) (h1 : 1 ≤ op) (h2 : op ≤ 31) : TabOk (kindOf op) (lowOf op) (midOf op) (highOf op) ∧ KindOk op (kindOf op) := by
  obtain ⟨i, rfl⟩ := Int.eq_ofNat_of_zero_le (show 0 ≤ op by omega)
  obtain ⟨a, b, c, d, e, f⟩ := tabB ⟨i, by omega⟩
  refine ⟨⟨a, b, c, d, e⟩, ?_⟩
  rcases f (by show 1 ≤ i; omega) with f | f | f | f | f | f | f | ⟨f, g⟩
  · exact .inl f
  · exact .inr (.inl f)
  · exact .inr (.inr (.inl f))
  · exact .inr (.inr (.inr (.inl f)))
  · exact .inr (.inr (.inr (.inr (.inl f))))
  · exact .inr (.inr (.inr (.inr (.inr (.inl f)))))
  · exact .inr (.inr (.inr (.inr (.inr (.inr (.inl f))))))
  · exact .inr (.inr (.inr (.inr (.inr (.inr (.inr ⟨f, by have : i = 31 := g; omega⟩))))))

/-- Two ops that may have one word are one op. -/
def compat (i j : Nat) : Bool :=
  lows.getD i 0 == lows.getD j 0 &&
  (kinds.getD i 0 == 85 || kinds.getD i 0 == 74 || kinds.getD i 0 == 69 || kinds.getD j 0 == 85 || kinds.getD j 0 == 74 || kinds.getD j 0 == 69 || mids.getD i 0 == mids.getD j 0) &&
  (!(kinds.getD i 0 == 82 && kinds.getD j 0 == 82) || highs.getD i 0 == highs.getD j 0) &&
  (!(kinds.getD i 0 == 72 && kinds.getD j 0 == 72) || highs.getD i 0 == highs.getD j 0)
theorem compat_eq : ∀ i : Fin 32, ∀ j : Fin 32, 1 ≤ i.val → 1 ≤ j.val → compat i.val j.val = true → i = j := by decide +kernel
theorem like_uniq (w o p : Int) (h1 : 1 ≤ o ∧ o ≤ 31) (h2 : 1 ≤ p ∧ p ≤ 31) (ho : like w o = true) (hp : like w p = true) : o = p := by
  obtain ⟨i, rfl⟩ := Int.eq_ofNat_of_zero_le (show 0 ≤ o by omega)
  obtain ⟨j, rfl⟩ := Int.eq_ofNat_of_zero_le (show 0 ≤ p by omega)
  have hc : compat i j = true := by
    simp only [like, Bool.and_eq_true, beq_iff_eq, lowOf, kindOf, midOf, highOf, Int.toNat_natCast] at ho hp
    obtain ⟨l1, k1⟩ := ho
    obtain ⟨l2, k2⟩ := hp
    unfold likesB at k1 k2
    unfold compat
    generalize kinds.getD i 0 = a at *
    generalize kinds.getD j 0 = b at *
    rw [l1, l2]
    by_cases a1 : a = 82
    · subst a1
      by_cases b1 : b = 82
      · subst b1; simp at k1 k2 ⊢; omega
      · by_cases b2 : b = 72
        · subst b2; simp at k1 k2 ⊢; omega
        · by_cases b3 : b = 85 ∨ b = 74 ∨ b = 69
          · simp [b1]; omega
          · simp [b1, b2, b3] at k1 k2 ⊢; omega
    · by_cases a2 : a = 72
      · subst a2
        by_cases b1 : b = 82
        · subst b1; simp at k1 k2 ⊢; omega
        · by_cases b2 : b = 72
          · subst b2; simp at k1 k2 ⊢; omega
          · by_cases b3 : b = 85 ∨ b = 74 ∨ b = 69
            · simp [b2]; omega
            · simp [b1, b2, b3] at k1 k2 ⊢; omega
      · by_cases a3 : a = 85 ∨ a = 74 ∨ a = 69
        · simp [a1, a2]; omega
        · by_cases b1 : b = 82
          · subst b1; simp [a1, a2, a3] at k1 k2 ⊢; omega
          · by_cases b2 : b = 72
            · subst b2; simp [a1, a2, a3] at k1 k2 ⊢; omega
            · by_cases b3 : b = 85 ∨ b = 74 ∨ b = 69
              · simp [a1, a2]; omega
              · simp [a1, a2, a3, b1, b2, b3] at k1 k2 ⊢; omega
  have := compat_eq ⟨i, by omega⟩ ⟨j, by omega⟩ (by show 1 ≤ i; omega) (by show 1 ≤ j; omega) hc
  have h : i = j := congrArg Fin.val this
  omega
theorem back_82 (op l m rd ra rb n h : Int) (hl : 0 ≤ l ∧ l < 128) (hm : 0 ≤ m ∧ m < 8) (hrd : 0 ≤ rd ∧ rd < 32) (hra : 0 ≤ ra ∧ ra < 32) (hrb : 0 ≤ rb ∧ rb < 32) (hh : 0 ≤ h ∧ h < 128) (hb : bodyB 82 rd ra rb n = true) :
    (0 ≤ rawE 82 rd ra rb n l m h ∧ rawE 82 rd ra rb n l m h < 4294967296) ∧ l = rawE 82 rd ra rb n l m h % 128 ∧ likesB 82 (rawE 82 rd ra rb n l m h) m h = true ∧
    rdOf 82 (rawE 82 rd ra rb n l m h) = rd ∧ raOf 82 (rawE 82 rd ra rb n l m h) = ra ∧ rbOf 82 (rawE 82 rd ra rb n l m h) = rb ∧ nOf 82 (rawE 82 rd ra rb n l m h) = n := by
  rw [raw_82 l m rd ra rb n h hl hm hrd hra hrb hh]
  simp [bodyB, fitB] at hb
  simp only [likesB, rdOf, raOf, rbOf, nOf, sgn]
  simp
  omega
theorem back_73 (op l m rd ra rb n h : Int) (hl : 0 ≤ l ∧ l < 128) (hm : 0 ≤ m ∧ m < 8) (hrd : 0 ≤ rd ∧ rd < 32) (hra : 0 ≤ ra ∧ ra < 32) (hrb : 0 ≤ rb ∧ rb < 32) (hh : 0 ≤ h ∧ h < 128) (hb : bodyB 73 rd ra rb n = true) :
    (0 ≤ rawE 73 rd ra rb n l m h ∧ rawE 73 rd ra rb n l m h < 4294967296) ∧ l = rawE 73 rd ra rb n l m h % 128 ∧ likesB 73 (rawE 73 rd ra rb n l m h) m h = true ∧
    rdOf 73 (rawE 73 rd ra rb n l m h) = rd ∧ raOf 73 (rawE 73 rd ra rb n l m h) = ra ∧ rbOf 73 (rawE 73 rd ra rb n l m h) = rb ∧ nOf 73 (rawE 73 rd ra rb n l m h) = n := by
  rw [raw_73 l m rd ra rb n h hl hm hrd hra hrb hh]
  simp [bodyB, fitB] at hb
  simp only [likesB, rdOf, raOf, rbOf, nOf, sgn]
  simp
  omega
theorem back_72 (op l m rd ra rb n h : Int) (hl : 0 ≤ l ∧ l < 128) (hm : 0 ≤ m ∧ m < 8) (hrd : 0 ≤ rd ∧ rd < 32) (hra : 0 ≤ ra ∧ ra < 32) (hrb : 0 ≤ rb ∧ rb < 32) (hh : 0 ≤ h ∧ h < 128) (he : h % 2 = 0) (hb : bodyB 72 rd ra rb n = true) :
    (0 ≤ rawE 72 rd ra rb n l m h ∧ rawE 72 rd ra rb n l m h < 4294967296) ∧ l = rawE 72 rd ra rb n l m h % 128 ∧ likesB 72 (rawE 72 rd ra rb n l m h) m h = true ∧
    rdOf 72 (rawE 72 rd ra rb n l m h) = rd ∧ raOf 72 (rawE 72 rd ra rb n l m h) = ra ∧ rbOf 72 (rawE 72 rd ra rb n l m h) = rb ∧ nOf 72 (rawE 72 rd ra rb n l m h) = n := by
  rw [raw_72 l m rd ra rb n h (h / 2) hl hm hrd hra hrb (by omega) (by omega)]
  simp [bodyB, fitB] at hb
  simp only [likesB, rdOf, raOf, rbOf, nOf, sgn]
  simp
  omega
theorem back_83 (op l m rd ra rb n h : Int) (hl : 0 ≤ l ∧ l < 128) (hm : 0 ≤ m ∧ m < 8) (hrd : 0 ≤ rd ∧ rd < 32) (hra : 0 ≤ ra ∧ ra < 32) (hrb : 0 ≤ rb ∧ rb < 32) (hh : 0 ≤ h ∧ h < 128) (hb : bodyB 83 rd ra rb n = true) :
    (0 ≤ rawE 83 rd ra rb n l m h ∧ rawE 83 rd ra rb n l m h < 4294967296) ∧ l = rawE 83 rd ra rb n l m h % 128 ∧ likesB 83 (rawE 83 rd ra rb n l m h) m h = true ∧
    rdOf 83 (rawE 83 rd ra rb n l m h) = rd ∧ raOf 83 (rawE 83 rd ra rb n l m h) = ra ∧ rbOf 83 (rawE 83 rd ra rb n l m h) = rb ∧ nOf 83 (rawE 83 rd ra rb n l m h) = n := by
  rw [raw_83 l m rd ra rb n h hl hm hrd hra hrb hh]
  simp [bodyB, fitB] at hb
  have hp0 : 0 ≤ n % 32 ∧ n % 32 < 32 := by omega
  have hp1 : 0 ≤ n / 32 % 128 ∧ n / 32 % 128 < 128 := by omega
  have hn : n = (n / 32 % 128) * 32 + n % 32 - (if n < 0 then 4096 else 0) := by split <;> omega
  generalize n % 32 = p0 at *
  generalize n / 32 % 128 = p1 at *
  generalize hw : l + p0 * 128 + m * 4096 + ra * 32768 + rb * 1048576 + p1 * 33554432 = w at *
  have c0 : w / 33554432 % 128 = p1 := by omega
  have c1 : w / 128 % 32 = p0 := by omega
  refine ⟨by omega, by omega, ?_, ?_, ?_, ?_, ?_⟩
  · first | (simp [likesB]; done) | (simp [likesB]; omega)
  · first | (simp [rdOf]; done) | (simp [rdOf]; omega)
  · first | (simp [raOf]; done) | (simp [raOf]; omega)
  · first | (simp [rbOf]; done) | (simp [rbOf]; omega)
  · simp only [nOf, sgn]
    simp only [c0, c1]
    simp
    split at hn <;> split <;> omega
theorem back_66 (op l m rd ra rb n h : Int) (hl : 0 ≤ l ∧ l < 128) (hm : 0 ≤ m ∧ m < 8) (hrd : 0 ≤ rd ∧ rd < 32) (hra : 0 ≤ ra ∧ ra < 32) (hrb : 0 ≤ rb ∧ rb < 32) (hh : 0 ≤ h ∧ h < 128) (hb : bodyB 66 rd ra rb n = true) :
    (0 ≤ rawE 66 rd ra rb n l m h ∧ rawE 66 rd ra rb n l m h < 4294967296) ∧ l = rawE 66 rd ra rb n l m h % 128 ∧ likesB 66 (rawE 66 rd ra rb n l m h) m h = true ∧
    rdOf 66 (rawE 66 rd ra rb n l m h) = rd ∧ raOf 66 (rawE 66 rd ra rb n l m h) = ra ∧ rbOf 66 (rawE 66 rd ra rb n l m h) = rb ∧ nOf 66 (rawE 66 rd ra rb n l m h) = n := by
  rw [raw_66 l m rd ra rb n h hl hm hrd hra hrb hh]
  simp [bodyB, fitB] at hb
  have hp0 : 0 ≤ n / 2048 % 2 ∧ n / 2048 % 2 < 2 := by omega
  have hp1 : 0 ≤ n / 2 % 16 ∧ n / 2 % 16 < 16 := by omega
  have hp2 : 0 ≤ n / 32 % 64 ∧ n / 32 % 64 < 64 := by omega
  have hp3 : 0 ≤ n / 4096 % 2 ∧ n / 4096 % 2 < 2 := by omega
  have hn : n = (n / 4096 % 2) * 4096 + (n / 2048 % 2) * 2048 + (n / 32 % 64) * 32 + (n / 2 % 16) * 2 - (if n < 0 then 8192 else 0) := by split <;> omega
  generalize n / 2048 % 2 = p0 at *
  generalize n / 2 % 16 = p1 at *
  generalize n / 32 % 64 = p2 at *
  generalize n / 4096 % 2 = p3 at *
  generalize hw : l + p0 * 128 + p1 * 256 + m * 4096 + ra * 32768 + rb * 1048576 + p2 * 33554432 + p3 * 2147483648 = w at *
  have c0 : w / 2147483648 % 2 = p3 := by omega
  have c1 : w / 128 % 2 = p0 := by omega
  have c2 : w / 33554432 % 64 = p2 := by omega
  have c3 : w / 256 % 16 = p1 := by omega
  refine ⟨by omega, by omega, ?_, ?_, ?_, ?_, ?_⟩
  · first | (simp [likesB]; done) | (simp [likesB]; omega)
  · first | (simp [rdOf]; done) | (simp [rdOf]; omega)
  · first | (simp [raOf]; done) | (simp [raOf]; omega)
  · first | (simp [rbOf]; done) | (simp [rbOf]; omega)
  · simp only [nOf, sgn]
    simp only [c0, c1, c2, c3]
    simp
    split at hn <;> split <;> omega
theorem back_85 (op l m rd ra rb n h : Int) (hl : 0 ≤ l ∧ l < 128) (hm : 0 ≤ m ∧ m < 8) (hrd : 0 ≤ rd ∧ rd < 32) (hra : 0 ≤ ra ∧ ra < 32) (hrb : 0 ≤ rb ∧ rb < 32) (hh : 0 ≤ h ∧ h < 128) (hz : m = 0) (hb : bodyB 85 rd ra rb n = true) :
    (0 ≤ rawE 85 rd ra rb n l m h ∧ rawE 85 rd ra rb n l m h < 4294967296) ∧ l = rawE 85 rd ra rb n l m h % 128 ∧ likesB 85 (rawE 85 rd ra rb n l m h) m h = true ∧
    rdOf 85 (rawE 85 rd ra rb n l m h) = rd ∧ raOf 85 (rawE 85 rd ra rb n l m h) = ra ∧ rbOf 85 (rawE 85 rd ra rb n l m h) = rb ∧ nOf 85 (rawE 85 rd ra rb n l m h) = n := by
  rw [raw_85 l m rd ra rb n h hl hm hrd hra hrb hh hz]
  simp [bodyB, fitB] at hb
  simp only [likesB, rdOf, raOf, rbOf, nOf, sgn]
  simp
  omega
theorem back_74 (op l m rd ra rb n h : Int) (hl : 0 ≤ l ∧ l < 128) (hm : 0 ≤ m ∧ m < 8) (hrd : 0 ≤ rd ∧ rd < 32) (hra : 0 ≤ ra ∧ ra < 32) (hrb : 0 ≤ rb ∧ rb < 32) (hh : 0 ≤ h ∧ h < 128) (hz : m = 0) (hb : bodyB 74 rd ra rb n = true) :
    (0 ≤ rawE 74 rd ra rb n l m h ∧ rawE 74 rd ra rb n l m h < 4294967296) ∧ l = rawE 74 rd ra rb n l m h % 128 ∧ likesB 74 (rawE 74 rd ra rb n l m h) m h = true ∧
    rdOf 74 (rawE 74 rd ra rb n l m h) = rd ∧ raOf 74 (rawE 74 rd ra rb n l m h) = ra ∧ rbOf 74 (rawE 74 rd ra rb n l m h) = rb ∧ nOf 74 (rawE 74 rd ra rb n l m h) = n := by
  rw [raw_74 l m rd ra rb n h hl hm hrd hra hrb hh hz]
  simp [bodyB, fitB] at hb
  have hp0 : 0 ≤ n / 4096 % 256 ∧ n / 4096 % 256 < 256 := by omega
  have hp1 : 0 ≤ n / 2048 % 2 ∧ n / 2048 % 2 < 2 := by omega
  have hp2 : 0 ≤ n / 2 % 1024 ∧ n / 2 % 1024 < 1024 := by omega
  have hp3 : 0 ≤ n / 1048576 % 2 ∧ n / 1048576 % 2 < 2 := by omega
  have hn : n = (n / 1048576 % 2) * 1048576 + (n / 4096 % 256) * 4096 + (n / 2048 % 2) * 2048 + (n / 2 % 1024) * 2 - (if n < 0 then 2097152 else 0) := by split <;> omega
  generalize n / 4096 % 256 = p0 at *
  generalize n / 2048 % 2 = p1 at *
  generalize n / 2 % 1024 = p2 at *
  generalize n / 1048576 % 2 = p3 at *
  generalize hw : l + rd * 128 + p0 * 4096 + p1 * 1048576 + p2 * 2097152 + p3 * 2147483648 = w at *
  have c0 : w / 2147483648 % 2 = p3 := by omega
  have c1 : w / 4096 % 256 = p0 := by omega
  have c2 : w / 1048576 % 2 = p1 := by omega
  have c3 : w / 2097152 % 1024 = p2 := by omega
  refine ⟨by omega, by omega, ?_, ?_, ?_, ?_, ?_⟩
  · first | (simp [likesB]; done) | (simp [likesB]; omega)
  · first | (simp [rdOf]; done) | (simp [rdOf]; omega)
  · first | (simp [raOf]; done) | (simp [raOf]; omega)
  · first | (simp [rbOf]; done) | (simp [rbOf]; omega)
  · simp only [nOf, sgn]
    simp only [c0, c1, c2, c3]
    simp
    split at hn <;> split <;> omega
theorem back_69 (op l m rd ra rb n h : Int) (hl : 0 ≤ l ∧ l < 128) (hm : 0 ≤ m ∧ m < 8) (hrd : 0 ≤ rd ∧ rd < 32) (hra : 0 ≤ ra ∧ ra < 32) (hrb : 0 ≤ rb ∧ rb < 32) (hh : 0 ≤ h ∧ h < 128) (hz : m = 0) (hb : bodyB 69 rd ra rb n = true) :
    (0 ≤ rawE 69 rd ra rb n l m h ∧ rawE 69 rd ra rb n l m h < 4294967296) ∧ l = rawE 69 rd ra rb n l m h % 128 ∧ likesB 69 (rawE 69 rd ra rb n l m h) m h = true ∧
    rdOf 69 (rawE 69 rd ra rb n l m h) = rd ∧ raOf 69 (rawE 69 rd ra rb n l m h) = ra ∧ rbOf 69 (rawE 69 rd ra rb n l m h) = rb ∧ nOf 69 (rawE 69 rd ra rb n l m h) = n := by
  rw [raw_69 l m rd ra rb n h hl hm hrd hra hrb hh]
  simp [bodyB, fitB] at hb
  simp only [likesB, rdOf, raOf, rbOf, nOf, sgn]
  simp
  omega
theorem regB_iff {n : Int} : regB n = true ↔ 0 ≤ n ∧ n < 32 := by simp [regB]
theorem right_parts {x : Ins} (h : x.right = true) : (1 ≤ x.op ∧ x.op ≤ 31) ∧ (0 ≤ x.rd ∧ x.rd < 32) ∧ (0 ≤ x.ra ∧ x.ra < 32) ∧ (0 ≤ x.rb ∧ x.rb < 32) ∧ bodyB (kindOf x.op) x.rd x.ra x.rb x.n = true := by
  simp only [Ins.right, rightB, Bool.and_eq_true, decide_eq_true_eq, regB_iff] at h
  exact ⟨⟨h.1.1.1.1.1, h.1.1.1.1.2⟩, h.1.1.1.2, h.1.1.2, h.1.2, h.2⟩
theorem ins_back (x : Ins) (h : x.right = true) : (0 ≤ x.word ∧ x.word < 4294967296) ∧ like x.word x.op = true ∧ ofWord x.word x.op = x := by
  obtain ⟨⟨h1, h2⟩, hrd, hra, hrb, hb⟩ := right_parts h
  obtain ⟨⟨hl, hm, hh, hz, he⟩, hk⟩ := tab_ok x.op h1 h2
  obtain ⟨op, rd, ra, rb, n⟩ := x
  simp only [Ins.word, like, ofWord] at *
  generalize lowOf op = l at *
  generalize midOf op = m at *
  generalize highOf op = hi at *
  have fin : ∀ {w : Int} {k : Int}, (0 ≤ w ∧ w < 4294967296) ∧ l = w % 128 ∧ likesB k w m hi = true ∧ rdOf k w = rd ∧ raOf k w = ra ∧ rbOf k w = rb ∧ nOf k w = n →
      (0 ≤ w ∧ w < 4294967296) ∧ (l == w % 128 && likesB k w m hi) = true ∧ (Ins.mk op (rdOf k w) (raOf k w) (rbOf k w) (nOf k w)) = Ins.mk op rd ra rb n := by
    rintro w k ⟨a, b, c, d, e, f, g⟩
    exact ⟨a, by rw [c, ← b]; simp, by rw [d, e, f, g]⟩
  rcases hk with hk | hk | hk | hk | hk | hk | hk | ⟨hk, _⟩ <;> rw [hk] at hb hz he ⊢
  · exact fin (back_82 op l m rd ra rb n hi hl hm hrd hra hrb hh hb)
  · exact fin (back_73 op l m rd ra rb n hi hl hm hrd hra hrb hh hb)
  · exact fin (back_72 op l m rd ra rb n hi hl hm hrd hra hrb hh (he rfl) hb)
  · exact fin (back_83 op l m rd ra rb n hi hl hm hrd hra hrb hh hb)
  · exact fin (back_66 op l m rd ra rb n hi hl hm hrd hra hrb hh hb)
  · exact fin (back_85 op l m rd ra rb n hi hl hm hrd hra hrb hh (hz (.inl rfl)) hb)
  · exact fin (back_74 op l m rd ra rb n hi hl hm hrd hra hrb hh (hz (.inr (.inl rfl))) hb)
  · exact fin (back_69 op l m rd ra rb n hi hl hm hrd hra hrb hh (hz (.inr (.inr rfl))) hb)
theorem word_inj {x y : Ins} (hx : x.right = true) (hy : y.right = true) (h : x.word = y.word) : x = y := by
  obtain ⟨_, lx, bx⟩ := ins_back x hx
  obtain ⟨_, ly, by'⟩ := ins_back y hy
  have ho : x.op = y.op := like_uniq x.word x.op y.op (right_parts hx).1 (right_parts hy).1 lx (h ▸ ly)
  rw [← bx, ← by', h, ho]

/-- Whether a word is an op's. -/
def hit (w op : Int) : Bool := like w op && (ofWord w op).right && (ofWord w op).word == w
/-- The first op from one on of which a word is. -/
def scan (w : Int) : Nat → Int → Option Ins
  | 0, _ => none
  | k + 1, op => if hit w op then some (ofWord w op) else scan w k (op + 1)
def dec (w : Int) : Option Ins := scan w 31 1
theorem scan_some (w : Int) : ∀ k op x, scan w k op = some x → x.right = true ∧ x.word = w := by
  intro k
  induction k with
  | zero => intro op x h; cases h
  | succ k ih =>
    intro op x h
    simp only [scan] at h
    split at h
    · rename_i hh
      cases h
      simp only [hit, Bool.and_eq_true, beq_iff_eq] at hh
      exact ⟨hh.1.2, hh.2⟩
    · exact ih _ _ h
theorem dec_some {w : Int} {x : Ins} (h : dec w = some x) : x.right = true ∧ x.word = w := scan_some w 31 1 x h
theorem scan_hit (w : Int) (x : Ins) (hx : x.right = true) (hw : x.word = w) : ∀ (k : Nat) (op : Int), op ≤ x.op → x.op < op + k → scan w k op = some x := by
  intro k
  induction k with
  | zero => intro op h1 h2; omega
  | succ k ih =>
    intro op h1 h2
    simp only [scan]
    obtain ⟨_, lx, bx⟩ := ins_back x hx
    by_cases he : op = x.op
    · subst he
      have : hit w x.op = true := by simp [hit, ← hw, lx, bx, hx]
      rw [if_pos this, ← hw, bx]
    · split
      · rename_i hh
        simp only [hit, Bool.and_eq_true, beq_iff_eq] at hh
        rw [word_inj hh.1.2 hx (hh.2.trans hw.symm)]
      · exact ih _ (by omega) (by omega)
theorem dec_word {x : Ins} (hx : x.right = true) : dec x.word = some x :=
  scan_hit x.word x hx rfl 31 1 (right_parts hx).1.1 (by have := (right_parts hx).1.2; omega)
end Go.Proofs.YtgeajgdddjjjnaaDoor.WordP

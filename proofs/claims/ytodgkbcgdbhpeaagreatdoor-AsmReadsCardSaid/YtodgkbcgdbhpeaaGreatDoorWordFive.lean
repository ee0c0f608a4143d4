/- Five numbers at the head of a block; what the parts of a word come to. -/
import Derived.Test.YtodgkbcgdbhpeaaGreatDoorWordIns
namespace Go.Proofs.YtodgkbcgdbhpeaaGreatDoor.WordP
set_option linter.unusedSimpArgs false
open Go.RowKit
set_option linter.unusedVariables false
/-- Five numbers lie at the head of a block that may be written. -/
structure Five (W : World) (b : Nat) (a0 a1 a2 a3 a4 : Int) : Prop where
  c0 : W.cell? ⟨b, 0, none⟩ = some (.int .i64 a0)
  c1 : W.cell? ⟨b, 1, none⟩ = some (.int .i64 a1)
  c2 : W.cell? ⟨b, 2, none⟩ = some (.int .i64 a2)
  c3 : W.cell? ⟨b, 3, none⟩ = some (.int .i64 a3)
  c4 : W.cell? ⟨b, 4, none⟩ = some (.int .i64 a4)
  f : ∀ i, W.frozen? ⟨b, i, none⟩ = false
theorem Five.grown {W W' : World} {b : Nat} {a0 a1 a2 a3 a4 : Int} (h : Five W b a0 a1 a2 a3 a4) (g : Grown W W') : Five W' b a0 a1 a2 a3 a4 :=
  ⟨grown_cell g h.c0, grown_cell g h.c1, grown_cell g h.c2, grown_cell g h.c3, grown_cell g h.c4, fun i => (g.2.1 _).trans (h.f i)⟩
theorem five_new (W : World) (a0 a1 a2 a3 a4 : Int) (t : TypeId) : Five (W.alloc (.cells (instCells a0 a1 a2 a3 a4) t)) W.heap.size a0 a1 a2 a3 a4 := by
  refine ⟨?_, ?_, ?_, ?_, ?_, ?_⟩
  · exact World.cell?_alloc_new W _ _ 0
  · exact World.cell?_alloc_new W _ _ 1
  · exact World.cell?_alloc_new W _ _ 2
  · exact World.cell?_alloc_new W _ _ 3
  · exact World.cell?_alloc_new W _ _ 4
  · intro i; simp [go_sem]
theorem bor_nat {a b : Int} {x y : Nat} (ha : a = (x : Int)) (hb : b = (y : Int)) (hx : x < 4294967296) (hy : y < 4294967296) :
    bor a b = ((x ||| y : Nat) : Int) ∧ x ||| y < 4294967296 := by
  subst ha hb
  exact ⟨u32_or_nat x y hx hy, Nat.or_lt_two_pow (n := 32) hx hy⟩
theorem or_lo (a c K k : Nat) (hK : K = 2 ^ k) (h : a < K) : a ||| c * K = a + c * K := by
  subst hK
  rw [Nat.or_comm, Nat.mul_comm, ← Nat.two_pow_add_eq_or_of_lt h c, Nat.add_comm]
theorem nest_82 (l m rd ra rb h : Nat) (hl : l < 128) (hm : m < 8) (hrd : rd < 32) (hra : ra < 32) (hrb : rb < 32) (hh : h < 128) : ((l ||| m * 4096) ||| (((rd * 128 ||| ra * 32768) ||| rb * 1048576) ||| h * 33554432)) = l + rd * 128 + m * 4096 + ra * 32768 + rb * 1048576 + h * 33554432 := by
  rw [show ((l ||| m * 4096) ||| (((rd * 128 ||| ra * 32768) ||| rb * 1048576) ||| h * 33554432)) = (((((l ||| rd * 128) ||| m * 4096) ||| ra * 32768) ||| rb * 1048576) ||| h * 33554432) from by ac_rfl]
  rw [or_lo (l) rd 128 7 (by decide) (by omega)]
  rw [or_lo (l + rd * 128) m 4096 12 (by decide) (by omega)]
  rw [or_lo (l + rd * 128 + m * 4096) ra 32768 15 (by decide) (by omega)]
  rw [or_lo (l + rd * 128 + m * 4096 + ra * 32768) rb 1048576 20 (by decide) (by omega)]
  rw [or_lo (l + rd * 128 + m * 4096 + ra * 32768 + rb * 1048576) h 33554432 25 (by decide) (by omega)]
theorem raw_82 (l m rd ra rb n h : Int) (hl : 0 ≤ l ∧ l < 128) (hm : 0 ≤ m ∧ m < 8) (hrd : 0 ≤ rd ∧ rd < 32) (hra : 0 ≤ ra ∧ ra < 32) (hrb : 0 ≤ rb ∧ rb < 32) (hh : 0 ≤ h ∧ h < 128) :
    rawE 82 rd ra rb n l m h = l + rd * 128 + m * 4096 + ra * 32768 + rb * 1048576 + h * 33554432 := by
  have e : rawE 82 rd ra rb n l m h = bor (bor (l) (m * 4096)) (bor (bor (bor (rd * 128) (ra * 32768)) (rb * 1048576)) (h * 33554432)) := by simp [rawE]
  rw [e]
  obtain ⟨l, rfl⟩ := Int.eq_ofNat_of_zero_le hl.1
  obtain ⟨m, rfl⟩ := Int.eq_ofNat_of_zero_le hm.1
  obtain ⟨rd, rfl⟩ := Int.eq_ofNat_of_zero_le hrd.1
  obtain ⟨ra, rfl⟩ := Int.eq_ofNat_of_zero_le hra.1
  obtain ⟨rb, rfl⟩ := Int.eq_ofNat_of_zero_le hrb.1
  obtain ⟨h, rfl⟩ := Int.eq_ofNat_of_zero_le hh.1
  rw [(bor_nat (x := (l ||| m * 4096)) (y := (((rd * 128 ||| ra * 32768) ||| rb * 1048576) ||| h * 33554432)) (bor_nat (x := l) (b := (m : Int) * 4096) (y := m * 4096) rfl rfl (by omega) (by omega)).1 (bor_nat (x := ((rd * 128 ||| ra * 32768) ||| rb * 1048576)) (b := (h : Int) * 33554432) (y := h * 33554432) (bor_nat (x := (rd * 128 ||| ra * 32768)) (b := (rb : Int) * 1048576) (y := rb * 1048576) (bor_nat (a := (rd : Int) * 128) (x := rd * 128) (b := (ra : Int) * 32768) (y := ra * 32768) rfl rfl (by omega) (by omega)).1 rfl (bor_nat (a := (rd : Int) * 128) (x := rd * 128) (b := (ra : Int) * 32768) (y := ra * 32768) rfl rfl (by omega) (by omega)).2 (by omega)).1 rfl (bor_nat (x := (rd * 128 ||| ra * 32768)) (b := (rb : Int) * 1048576) (y := rb * 1048576) (bor_nat (a := (rd : Int) * 128) (x := rd * 128) (b := (ra : Int) * 32768) (y := ra * 32768) rfl rfl (by omega) (by omega)).1 rfl (bor_nat (a := (rd : Int) * 128) (x := rd * 128) (b := (ra : Int) * 32768) (y := ra * 32768) rfl rfl (by omega) (by omega)).2 (by omega)).2 (by omega)).1 (bor_nat (x := l) (b := (m : Int) * 4096) (y := m * 4096) rfl rfl (by omega) (by omega)).2 (bor_nat (x := ((rd * 128 ||| ra * 32768) ||| rb * 1048576)) (b := (h : Int) * 33554432) (y := h * 33554432) (bor_nat (x := (rd * 128 ||| ra * 32768)) (b := (rb : Int) * 1048576) (y := rb * 1048576) (bor_nat (a := (rd : Int) * 128) (x := rd * 128) (b := (ra : Int) * 32768) (y := ra * 32768) rfl rfl (by omega) (by omega)).1 rfl (bor_nat (a := (rd : Int) * 128) (x := rd * 128) (b := (ra : Int) * 32768) (y := ra * 32768) rfl rfl (by omega) (by omega)).2 (by omega)).1 rfl (bor_nat (x := (rd * 128 ||| ra * 32768)) (b := (rb : Int) * 1048576) (y := rb * 1048576) (bor_nat (a := (rd : Int) * 128) (x := rd * 128) (b := (ra : Int) * 32768) (y := ra * 32768) rfl rfl (by omega) (by omega)).1 rfl (bor_nat (a := (rd : Int) * 128) (x := rd * 128) (b := (ra : Int) * 32768) (y := ra * 32768) rfl rfl (by omega) (by omega)).2 (by omega)).2 (by omega)).2).1, nest_82 l m rd ra rb h (by omega) (by omega) (by omega) (by omega) (by omega) (by omega)]
  simp
theorem nest_73 (l m rd ra p0 : Nat) (hl : l < 128) (hm : m < 8) (hrd : rd < 32) (hra : ra < 32) (hp0 : p0 < 4096) : ((l ||| m * 4096) ||| ((rd * 128 ||| ra * 32768) ||| p0 * 1048576)) = l + rd * 128 + m * 4096 + ra * 32768 + p0 * 1048576 := by
  rw [show ((l ||| m * 4096) ||| ((rd * 128 ||| ra * 32768) ||| p0 * 1048576)) = ((((l ||| rd * 128) ||| m * 4096) ||| ra * 32768) ||| p0 * 1048576) from by ac_rfl]
  rw [or_lo (l) rd 128 7 (by decide) (by omega)]
  rw [or_lo (l + rd * 128) m 4096 12 (by decide) (by omega)]
  rw [or_lo (l + rd * 128 + m * 4096) ra 32768 15 (by decide) (by omega)]
  rw [or_lo (l + rd * 128 + m * 4096 + ra * 32768) p0 1048576 20 (by decide) (by omega)]
theorem raw_73 (l m rd ra rb n h : Int) (hl : 0 ≤ l ∧ l < 128) (hm : 0 ≤ m ∧ m < 8) (hrd : 0 ≤ rd ∧ rd < 32) (hra : 0 ≤ ra ∧ ra < 32) (hrb : 0 ≤ rb ∧ rb < 32) (hh : 0 ≤ h ∧ h < 128) :
    rawE 73 rd ra rb n l m h = l + rd * 128 + m * 4096 + ra * 32768 + n % 4096 * 1048576 := by
  have e : rawE 73 rd ra rb n l m h = bor (bor (l) (m * 4096)) (bor (bor (rd * 128) (ra * 32768)) (n % 4096 * 1048576)) := by simp [rawE]
  rw [e]
  have hp0 : 0 ≤ n % 4096 ∧ n % 4096 < 4096 := by omega
  generalize n % 4096 = p0 at *
  obtain ⟨l, rfl⟩ := Int.eq_ofNat_of_zero_le hl.1
  obtain ⟨m, rfl⟩ := Int.eq_ofNat_of_zero_le hm.1
  obtain ⟨rd, rfl⟩ := Int.eq_ofNat_of_zero_le hrd.1
  obtain ⟨ra, rfl⟩ := Int.eq_ofNat_of_zero_le hra.1
  obtain ⟨p0, rfl⟩ := Int.eq_ofNat_of_zero_le hp0.1
  rw [(bor_nat (x := (l ||| m * 4096)) (y := ((rd * 128 ||| ra * 32768) ||| p0 * 1048576)) (bor_nat (x := l) (b := (m : Int) * 4096) (y := m * 4096) rfl rfl (by omega) (by omega)).1 (bor_nat (x := (rd * 128 ||| ra * 32768)) (b := (p0 : Int) * 1048576) (y := p0 * 1048576) (bor_nat (a := (rd : Int) * 128) (x := rd * 128) (b := (ra : Int) * 32768) (y := ra * 32768) rfl rfl (by omega) (by omega)).1 rfl (bor_nat (a := (rd : Int) * 128) (x := rd * 128) (b := (ra : Int) * 32768) (y := ra * 32768) rfl rfl (by omega) (by omega)).2 (by omega)).1 (bor_nat (x := l) (b := (m : Int) * 4096) (y := m * 4096) rfl rfl (by omega) (by omega)).2 (bor_nat (x := (rd * 128 ||| ra * 32768)) (b := (p0 : Int) * 1048576) (y := p0 * 1048576) (bor_nat (a := (rd : Int) * 128) (x := rd * 128) (b := (ra : Int) * 32768) (y := ra * 32768) rfl rfl (by omega) (by omega)).1 rfl (bor_nat (a := (rd : Int) * 128) (x := rd * 128) (b := (ra : Int) * 32768) (y := ra * 32768) rfl rfl (by omega) (by omega)).2 (by omega)).2).1, nest_73 l m rd ra p0 (by omega) (by omega) (by omega) (by omega) (by omega)]
  simp
theorem nest_72 (l m rd ra p0 g : Nat) (hl : l < 128) (hm : m < 8) (hrd : rd < 32) (hra : ra < 32) (hp0 : p0 < 64) (hg : g < 64) : ((l ||| m * 4096) ||| (((rd * 128 ||| ra * 32768) ||| p0 * 1048576) ||| g * 67108864)) = l + rd * 128 + m * 4096 + ra * 32768 + p0 * 1048576 + g * 67108864 := by
  rw [show ((l ||| m * 4096) ||| (((rd * 128 ||| ra * 32768) ||| p0 * 1048576) ||| g * 67108864)) = (((((l ||| rd * 128) ||| m * 4096) ||| ra * 32768) ||| p0 * 1048576) ||| g * 67108864) from by ac_rfl]
  rw [or_lo (l) rd 128 7 (by decide) (by omega)]
  rw [or_lo (l + rd * 128) m 4096 12 (by decide) (by omega)]
  rw [or_lo (l + rd * 128 + m * 4096) ra 32768 15 (by decide) (by omega)]
  rw [or_lo (l + rd * 128 + m * 4096 + ra * 32768) p0 1048576 20 (by decide) (by omega)]
  rw [or_lo (l + rd * 128 + m * 4096 + ra * 32768 + p0 * 1048576) g 67108864 26 (by decide) (by omega)]
theorem raw_72 (l m rd ra rb n h g : Int) (hl : 0 ≤ l ∧ l < 128) (hm : 0 ≤ m ∧ m < 8) (hrd : 0 ≤ rd ∧ rd < 32) (hra : 0 ≤ ra ∧ ra < 32) (hrb : 0 ≤ rb ∧ rb < 32) (hg : 0 ≤ g ∧ g < 64) (hhg : h = 2 * g) :
    rawE 72 rd ra rb n l m h = l + rd * 128 + m * 4096 + ra * 32768 + n % 64 * 1048576 + g * 67108864 := by
  have e : rawE 72 rd ra rb n l m h = bor (bor (l) (m * 4096)) (bor (bor (bor (rd * 128) (ra * 32768)) (n % 64 * 1048576)) (g * 67108864)) := by
    have eg : h * 33554432 = g * 67108864 := by omega
    simp only [rawE]; simp [eg]
  rw [e]
  have hp0 : 0 ≤ n % 64 ∧ n % 64 < 64 := by omega
  generalize n % 64 = p0 at *
  obtain ⟨l, rfl⟩ := Int.eq_ofNat_of_zero_le hl.1
  obtain ⟨m, rfl⟩ := Int.eq_ofNat_of_zero_le hm.1
  obtain ⟨rd, rfl⟩ := Int.eq_ofNat_of_zero_le hrd.1
  obtain ⟨ra, rfl⟩ := Int.eq_ofNat_of_zero_le hra.1
  obtain ⟨p0, rfl⟩ := Int.eq_ofNat_of_zero_le hp0.1
  obtain ⟨g, rfl⟩ := Int.eq_ofNat_of_zero_le hg.1
  rw [(bor_nat (x := (l ||| m * 4096)) (y := (((rd * 128 ||| ra * 32768) ||| p0 * 1048576) ||| g * 67108864)) (bor_nat (x := l) (b := (m : Int) * 4096) (y := m * 4096) rfl rfl (by omega) (by omega)).1 (bor_nat (x := ((rd * 128 ||| ra * 32768) ||| p0 * 1048576)) (b := (g : Int) * 67108864) (y := g * 67108864) (bor_nat (x := (rd * 128 ||| ra * 32768)) (b := (p0 : Int) * 1048576) (y := p0 * 1048576) (bor_nat (a := (rd : Int) * 128) (x := rd * 128) (b := (ra : Int) * 32768) (y := ra * 32768) rfl rfl (by omega) (by omega)).1 rfl (bor_nat (a := (rd : Int) * 128) (x := rd * 128) (b := (ra : Int) * 32768) (y := ra * 32768) rfl rfl (by omega) (by omega)).2 (by omega)).1 rfl (bor_nat (x := (rd * 128 ||| ra * 32768)) (b := (p0 : Int) * 1048576) (y := p0 * 1048576) (bor_nat (a := (rd : Int) * 128) (x := rd * 128) (b := (ra : Int) * 32768) (y := ra * 32768) rfl rfl (by omega) (by omega)).1 rfl (bor_nat (a := (rd : Int) * 128) (x := rd * 128) (b := (ra : Int) * 32768) (y := ra * 32768) rfl rfl (by omega) (by omega)).2 (by omega)).2 (by omega)).1 (bor_nat (x := l) (b := (m : Int) * 4096) (y := m * 4096) rfl rfl (by omega) (by omega)).2 (bor_nat (x := ((rd * 128 ||| ra * 32768) ||| p0 * 1048576)) (b := (g : Int) * 67108864) (y := g * 67108864) (bor_nat (x := (rd * 128 ||| ra * 32768)) (b := (p0 : Int) * 1048576) (y := p0 * 1048576) (bor_nat (a := (rd : Int) * 128) (x := rd * 128) (b := (ra : Int) * 32768) (y := ra * 32768) rfl rfl (by omega) (by omega)).1 rfl (bor_nat (a := (rd : Int) * 128) (x := rd * 128) (b := (ra : Int) * 32768) (y := ra * 32768) rfl rfl (by omega) (by omega)).2 (by omega)).1 rfl (bor_nat (x := (rd * 128 ||| ra * 32768)) (b := (p0 : Int) * 1048576) (y := p0 * 1048576) (bor_nat (a := (rd : Int) * 128) (x := rd * 128) (b := (ra : Int) * 32768) (y := ra * 32768) rfl rfl (by omega) (by omega)).1 rfl (bor_nat (a := (rd : Int) * 128) (x := rd * 128) (b := (ra : Int) * 32768) (y := ra * 32768) rfl rfl (by omega) (by omega)).2 (by omega)).2 (by omega)).2).1, nest_72 l m rd ra p0 g (by omega) (by omega) (by omega) (by omega) (by omega) (by omega)]
  simp
theorem nest_83 (l m p0 ra rb p1 : Nat) (hl : l < 128) (hm : m < 8) (hp0 : p0 < 32) (hra : ra < 32) (hrb : rb < 32) (hp1 : p1 < 128) : ((l ||| m * 4096) ||| (((p0 * 128 ||| ra * 32768) ||| rb * 1048576) ||| p1 * 33554432)) = l + p0 * 128 + m * 4096 + ra * 32768 + rb * 1048576 + p1 * 33554432 := by
  rw [show ((l ||| m * 4096) ||| (((p0 * 128 ||| ra * 32768) ||| rb * 1048576) ||| p1 * 33554432)) = (((((l ||| p0 * 128) ||| m * 4096) ||| ra * 32768) ||| rb * 1048576) ||| p1 * 33554432) from by ac_rfl]
  rw [or_lo (l) p0 128 7 (by decide) (by omega)]
  rw [or_lo (l + p0 * 128) m 4096 12 (by decide) (by omega)]
  rw [or_lo (l + p0 * 128 + m * 4096) ra 32768 15 (by decide) (by omega)]
  rw [or_lo (l + p0 * 128 + m * 4096 + ra * 32768) rb 1048576 20 (by decide) (by omega)]
  rw [or_lo (l + p0 * 128 + m * 4096 + ra * 32768 + rb * 1048576) p1 33554432 25 (by decide) (by omega)]
theorem raw_83 (l m rd ra rb n h : Int) (hl : 0 ≤ l ∧ l < 128) (hm : 0 ≤ m ∧ m < 8) (hrd : 0 ≤ rd ∧ rd < 32) (hra : 0 ≤ ra ∧ ra < 32) (hrb : 0 ≤ rb ∧ rb < 32) (hh : 0 ≤ h ∧ h < 128) :
    rawE 83 rd ra rb n l m h = l + n % 32 * 128 + m * 4096 + ra * 32768 + rb * 1048576 + n / 32 % 128 * 33554432 := by
  have e : rawE 83 rd ra rb n l m h = bor (bor (l) (m * 4096)) (bor (bor (bor (n % 32 * 128) (ra * 32768)) (rb * 1048576)) (n / 32 % 128 * 33554432)) := by simp [rawE]
  rw [e]
  have hp0 : 0 ≤ n % 32 ∧ n % 32 < 32 := by omega
  generalize n % 32 = p0 at *
  have hp1 : 0 ≤ n / 32 % 128 ∧ n / 32 % 128 < 128 := by omega
  generalize n / 32 % 128 = p1 at *
  obtain ⟨l, rfl⟩ := Int.eq_ofNat_of_zero_le hl.1
  obtain ⟨m, rfl⟩ := Int.eq_ofNat_of_zero_le hm.1
  obtain ⟨p0, rfl⟩ := Int.eq_ofNat_of_zero_le hp0.1
  obtain ⟨ra, rfl⟩ := Int.eq_ofNat_of_zero_le hra.1
  obtain ⟨rb, rfl⟩ := Int.eq_ofNat_of_zero_le hrb.1
  obtain ⟨p1, rfl⟩ := Int.eq_ofNat_of_zero_le hp1.1
  rw [(bor_nat (x := (l ||| m * 4096)) (y := (((p0 * 128 ||| ra * 32768) ||| rb * 1048576) ||| p1 * 33554432)) (bor_nat (x := l) (b := (m : Int) * 4096) (y := m * 4096) rfl rfl (by omega) (by omega)).1 (bor_nat (x := ((p0 * 128 ||| ra * 32768) ||| rb * 1048576)) (b := (p1 : Int) * 33554432) (y := p1 * 33554432) (bor_nat (x := (p0 * 128 ||| ra * 32768)) (b := (rb : Int) * 1048576) (y := rb * 1048576) (bor_nat (a := (p0 : Int) * 128) (x := p0 * 128) (b := (ra : Int) * 32768) (y := ra * 32768) rfl rfl (by omega) (by omega)).1 rfl (bor_nat (a := (p0 : Int) * 128) (x := p0 * 128) (b := (ra : Int) * 32768) (y := ra * 32768) rfl rfl (by omega) (by omega)).2 (by omega)).1 rfl (bor_nat (x := (p0 * 128 ||| ra * 32768)) (b := (rb : Int) * 1048576) (y := rb * 1048576) (bor_nat (a := (p0 : Int) * 128) (x := p0 * 128) (b := (ra : Int) * 32768) (y := ra * 32768) rfl rfl (by omega) (by omega)).1 rfl (bor_nat (a := (p0 : Int) * 128) (x := p0 * 128) (b := (ra : Int) * 32768) (y := ra * 32768) rfl rfl (by omega) (by omega)).2 (by omega)).2 (by omega)).1 (bor_nat (x := l) (b := (m : Int) * 4096) (y := m * 4096) rfl rfl (by omega) (by omega)).2 (bor_nat (x := ((p0 * 128 ||| ra * 32768) ||| rb * 1048576)) (b := (p1 : Int) * 33554432) (y := p1 * 33554432) (bor_nat (x := (p0 * 128 ||| ra * 32768)) (b := (rb : Int) * 1048576) (y := rb * 1048576) (bor_nat (a := (p0 : Int) * 128) (x := p0 * 128) (b := (ra : Int) * 32768) (y := ra * 32768) rfl rfl (by omega) (by omega)).1 rfl (bor_nat (a := (p0 : Int) * 128) (x := p0 * 128) (b := (ra : Int) * 32768) (y := ra * 32768) rfl rfl (by omega) (by omega)).2 (by omega)).1 rfl (bor_nat (x := (p0 * 128 ||| ra * 32768)) (b := (rb : Int) * 1048576) (y := rb * 1048576) (bor_nat (a := (p0 : Int) * 128) (x := p0 * 128) (b := (ra : Int) * 32768) (y := ra * 32768) rfl rfl (by omega) (by omega)).1 rfl (bor_nat (a := (p0 : Int) * 128) (x := p0 * 128) (b := (ra : Int) * 32768) (y := ra * 32768) rfl rfl (by omega) (by omega)).2 (by omega)).2 (by omega)).2).1, nest_83 l m p0 ra rb p1 (by omega) (by omega) (by omega) (by omega) (by omega) (by omega)]
  simp
theorem nest_66 (l m p0 p1 ra rb p2 p3 : Nat) (hl : l < 128) (hm : m < 8) (hp0 : p0 < 2) (hp1 : p1 < 16) (hra : ra < 32) (hrb : rb < 32) (hp2 : p2 < 64) (hp3 : p3 < 2) : ((l ||| m * 4096) ||| (((((p0 * 128 ||| p1 * 256) ||| ra * 32768) ||| rb * 1048576) ||| p2 * 33554432) ||| p3 * 2147483648)) = l + p0 * 128 + p1 * 256 + m * 4096 + ra * 32768 + rb * 1048576 + p2 * 33554432 + p3 * 2147483648 := by
  rw [show ((l ||| m * 4096) ||| (((((p0 * 128 ||| p1 * 256) ||| ra * 32768) ||| rb * 1048576) ||| p2 * 33554432) ||| p3 * 2147483648)) = (((((((l ||| p0 * 128) ||| p1 * 256) ||| m * 4096) ||| ra * 32768) ||| rb * 1048576) ||| p2 * 33554432) ||| p3 * 2147483648) from by ac_rfl]
  rw [or_lo (l) p0 128 7 (by decide) (by omega)]
  rw [or_lo (l + p0 * 128) p1 256 8 (by decide) (by omega)]
  rw [or_lo (l + p0 * 128 + p1 * 256) m 4096 12 (by decide) (by omega)]
  rw [or_lo (l + p0 * 128 + p1 * 256 + m * 4096) ra 32768 15 (by decide) (by omega)]
  rw [or_lo (l + p0 * 128 + p1 * 256 + m * 4096 + ra * 32768) rb 1048576 20 (by decide) (by omega)]
  rw [or_lo (l + p0 * 128 + p1 * 256 + m * 4096 + ra * 32768 + rb * 1048576) p2 33554432 25 (by decide) (by omega)]
  rw [or_lo (l + p0 * 128 + p1 * 256 + m * 4096 + ra * 32768 + rb * 1048576 + p2 * 33554432) p3 2147483648 31 (by decide) (by omega)]
theorem raw_66 (l m rd ra rb n h : Int) (hl : 0 ≤ l ∧ l < 128) (hm : 0 ≤ m ∧ m < 8) (hrd : 0 ≤ rd ∧ rd < 32) (hra : 0 ≤ ra ∧ ra < 32) (hrb : 0 ≤ rb ∧ rb < 32) (hh : 0 ≤ h ∧ h < 128) :
    rawE 66 rd ra rb n l m h = l + n / 2048 % 2 * 128 + n / 2 % 16 * 256 + m * 4096 + ra * 32768 + rb * 1048576 + n / 32 % 64 * 33554432 + n / 4096 % 2 * 2147483648 := by
  have e : rawE 66 rd ra rb n l m h = bor (bor (l) (m * 4096)) (bor (bor (bor (bor (bor (n / 2048 % 2 * 128) (n / 2 % 16 * 256)) (ra * 32768)) (rb * 1048576)) (n / 32 % 64 * 33554432)) (n / 4096 % 2 * 2147483648)) := by simp [rawE]
  rw [e]
  have hp0 : 0 ≤ n / 2048 % 2 ∧ n / 2048 % 2 < 2 := by omega
  generalize n / 2048 % 2 = p0 at *
  have hp1 : 0 ≤ n / 2 % 16 ∧ n / 2 % 16 < 16 := by omega
  generalize n / 2 % 16 = p1 at *
  have hp2 : 0 ≤ n / 32 % 64 ∧ n / 32 % 64 < 64 := by omega
  generalize n / 32 % 64 = p2 at *
  have hp3 : 0 ≤ n / 4096 % 2 ∧ n / 4096 % 2 < 2 := by omega
  generalize n / 4096 % 2 = p3 at *
  obtain ⟨l, rfl⟩ := Int.eq_ofNat_of_zero_le hl.1
  obtain ⟨m, rfl⟩ := Int.eq_ofNat_of_zero_le hm.1
  obtain ⟨p0, rfl⟩ := Int.eq_ofNat_of_zero_le hp0.1
  obtain ⟨p1, rfl⟩ := Int.eq_ofNat_of_zero_le hp1.1
  obtain ⟨ra, rfl⟩ := Int.eq_ofNat_of_zero_le hra.1
  obtain ⟨rb, rfl⟩ := Int.eq_ofNat_of_zero_le hrb.1
  obtain ⟨p2, rfl⟩ := Int.eq_ofNat_of_zero_le hp2.1
  obtain ⟨p3, rfl⟩ := Int.eq_ofNat_of_zero_le hp3.1
  rw [(bor_nat (x := (l ||| m * 4096)) (y := (((((p0 * 128 ||| p1 * 256) ||| ra * 32768) ||| rb * 1048576) ||| p2 * 33554432) ||| p3 * 2147483648)) (bor_nat (x := l) (b := (m : Int) * 4096) (y := m * 4096) rfl rfl (by omega) (by omega)).1 (bor_nat (x := ((((p0 * 128 ||| p1 * 256) ||| ra * 32768) ||| rb * 1048576) ||| p2 * 33554432)) (b := (p3 : Int) * 2147483648) (y := p3 * 2147483648) (bor_nat (x := (((p0 * 128 ||| p1 * 256) ||| ra * 32768) ||| rb * 1048576)) (b := (p2 : Int) * 33554432) (y := p2 * 33554432) (bor_nat (x := ((p0 * 128 ||| p1 * 256) ||| ra * 32768)) (b := (rb : Int) * 1048576) (y := rb * 1048576) (bor_nat (x := (p0 * 128 ||| p1 * 256)) (b := (ra : Int) * 32768) (y := ra * 32768) (bor_nat (a := (p0 : Int) * 128) (x := p0 * 128) (b := (p1 : Int) * 256) (y := p1 * 256) rfl rfl (by omega) (by omega)).1 rfl (bor_nat (a := (p0 : Int) * 128) (x := p0 * 128) (b := (p1 : Int) * 256) (y := p1 * 256) rfl rfl (by omega) (by omega)).2 (by omega)).1 rfl (bor_nat (x := (p0 * 128 ||| p1 * 256)) (b := (ra : Int) * 32768) (y := ra * 32768) (bor_nat (a := (p0 : Int) * 128) (x := p0 * 128) (b := (p1 : Int) * 256) (y := p1 * 256) rfl rfl (by omega) (by omega)).1 rfl (bor_nat (a := (p0 : Int) * 128) (x := p0 * 128) (b := (p1 : Int) * 256) (y := p1 * 256) rfl rfl (by omega) (by omega)).2 (by omega)).2 (by omega)).1 rfl (bor_nat (x := ((p0 * 128 ||| p1 * 256) ||| ra * 32768)) (b := (rb : Int) * 1048576) (y := rb * 1048576) (bor_nat (x := (p0 * 128 ||| p1 * 256)) (b := (ra : Int) * 32768) (y := ra * 32768) (bor_nat (a := (p0 : Int) * 128) (x := p0 * 128) (b := (p1 : Int) * 256) (y := p1 * 256) rfl rfl (by omega) (by omega)).1 rfl (bor_nat (a := (p0 : Int) * 128) (x := p0 * 128) (b := (p1 : Int) * 256) (y := p1 * 256) rfl rfl (by omega) (by omega)).2 (by omega)).1 rfl (bor_nat (x := (p0 * 128 ||| p1 * 256)) (b := (ra : Int) * 32768) (y := ra * 32768) (bor_nat (a := (p0 : Int) * 128) (x := p0 * 128) (b := (p1 : Int) * 256) (y := p1 * 256) rfl rfl (by omega) (by omega)).1 rfl (bor_nat (a := (p0 : Int) * 128) (x := p0 * 128) (b := (p1 : Int) * 256) (y := p1 * 256) rfl rfl (by omega) (by omega)).2 (by omega)).2 (by omega)).2 (by omega)).1 rfl (bor_nat (x := (((p0 * 128 ||| p1 * 256) ||| ra * 32768) ||| rb * 1048576)) (b := (p2 : Int) * 33554432) (y := p2 * 33554432) (bor_nat (x := ((p0 * 128 ||| p1 * 256) ||| ra * 32768)) (b := (rb : Int) * 1048576) (y := rb * 1048576) (bor_nat (x := (p0 * 128 ||| p1 * 256)) (b := (ra : Int) * 32768) (y := ra * 32768) (bor_nat (a := (p0 : Int) * 128) (x := p0 * 128) (b := (p1 : Int) * 256) (y := p1 * 256) rfl rfl (by omega) (by omega)).1 rfl (bor_nat (a := (p0 : Int) * 128) (x := p0 * 128) (b := (p1 : Int) * 256) (y := p1 * 256) rfl rfl (by omega) (by omega)).2 (by omega)).1 rfl (bor_nat (x := (p0 * 128 ||| p1 * 256)) (b := (ra : Int) * 32768) (y := ra * 32768) (bor_nat (a := (p0 : Int) * 128) (x := p0 * 128) (b := (p1 : Int) * 256) (y := p1 * 256) rfl rfl (by omega) (by omega)).1 rfl (bor_nat (a := (p0 : Int) * 128) (x := p0 * 128) (b := (p1 : Int) * 256) (y := p1 * 256) rfl rfl (by omega) (by omega)).2 (by omega)).2 (by omega)).1 rfl (bor_nat (x := ((p0 * 128 ||| p1 * 256) ||| ra * 32768)) (b := (rb : Int) * 1048576) (y := rb * 1048576) (bor_nat (x := (p0 * 128 ||| p1 * 256)) (b := (ra : Int) * 32768) (y := ra * 32768) (bor_nat (a := (p0 : Int) * 128) (x := p0 * 128) (b := (p1 : Int) * 256) (y := p1 * 256) rfl rfl (by omega) (by omega)).1 rfl (bor_nat (a := (p0 : Int) * 128) (x := p0 * 128) (b := (p1 : Int) * 256) (y := p1 * 256) rfl rfl (by omega) (by omega)).2 (by omega)).1 rfl (bor_nat (x := (p0 * 128 ||| p1 * 256)) (b := (ra : Int) * 32768) (y := ra * 32768) (bor_nat (a := (p0 : Int) * 128) (x := p0 * 128) (b := (p1 : Int) * 256) (y := p1 * 256) rfl rfl (by omega) (by omega)).1 rfl (bor_nat (a := (p0 : Int) * 128) (x := p0 * 128) (b := (p1 : Int) * 256) (y := p1 * 256) rfl rfl (by omega) (by omega)).2 (by omega)).2 (by omega)).2 (by omega)).2 (by omega)).1 (bor_nat (x := l) (b := (m : Int) * 4096) (y := m * 4096) rfl rfl (by omega) (by omega)).2 (bor_nat (x := ((((p0 * 128 ||| p1 * 256) ||| ra * 32768) ||| rb * 1048576) ||| p2 * 33554432)) (b := (p3 : Int) * 2147483648) (y := p3 * 2147483648) (bor_nat (x := (((p0 * 128 ||| p1 * 256) ||| ra * 32768) ||| rb * 1048576)) (b := (p2 : Int) * 33554432) (y := p2 * 33554432) (bor_nat (x := ((p0 * 128 ||| p1 * 256) ||| ra * 32768)) (b := (rb : Int) * 1048576) (y := rb * 1048576) (bor_nat (x := (p0 * 128 ||| p1 * 256)) (b := (ra : Int) * 32768) (y := ra * 32768) (bor_nat (a := (p0 : Int) * 128) (x := p0 * 128) (b := (p1 : Int) * 256) (y := p1 * 256) rfl rfl (by omega) (by omega)).1 rfl (bor_nat (a := (p0 : Int) * 128) (x := p0 * 128) (b := (p1 : Int) * 256) (y := p1 * 256) rfl rfl (by omega) (by omega)).2 (by omega)).1 rfl (bor_nat (x := (p0 * 128 ||| p1 * 256)) (b := (ra : Int) * 32768) (y := ra * 32768) (bor_nat (a := (p0 : Int) * 128) (x := p0 * 128) (b := (p1 : Int) * 256) (y := p1 * 256) rfl rfl (by omega) (by omega)).1 rfl (bor_nat (a := (p0 : Int) * 128) (x := p0 * 128) (b := (p1 : Int) * 256) (y := p1 * 256) rfl rfl (by omega) (by omega)).2 (by omega)).2 (by omega)).1 rfl (bor_nat (x := ((p0 * 128 ||| p1 * 256) ||| ra * 32768)) (b := (rb : Int) * 1048576) (y := rb * 1048576) (bor_nat (x := (p0 * 128 ||| p1 * 256)) (b := (ra : Int) * 32768) (y := ra * 32768) (bor_nat (a := (p0 : Int) * 128) (x := p0 * 128) (b := (p1 : Int) * 256) (y := p1 * 256) rfl rfl (by omega) (by omega)).1 rfl (bor_nat (a := (p0 : Int) * 128) (x := p0 * 128) (b := (p1 : Int) * 256) (y := p1 * 256) rfl rfl (by omega) (by omega)).2 (by omega)).1 rfl (bor_nat (x := (p0 * 128 ||| p1 * 256)) (b := (ra : Int) * 32768) (y := ra * 32768) (bor_nat (a := (p0 : Int) * 128) (x := p0 * 128) (b := (p1 : Int) * 256) (y := p1 * 256) rfl rfl (by omega) (by omega)).1 rfl (bor_nat (a := (p0 : Int) * 128) (x := p0 * 128) (b := (p1 : Int) * 256) (y := p1 * 256) rfl rfl (by omega) (by omega)).2 (by omega)).2 (by omega)).2 (by omega)).1 rfl (bor_nat (x := (((p0 * 128 ||| p1 * 256) ||| ra * 32768) ||| rb * 1048576)) (b := (p2 : Int) * 33554432) (y := p2 * 33554432) (bor_nat (x := ((p0 * 128 ||| p1 * 256) ||| ra * 32768)) (b := (rb : Int) * 1048576) (y := rb * 1048576) (bor_nat (x := (p0 * 128 ||| p1 * 256)) (b := (ra : Int) * 32768) (y := ra * 32768) (bor_nat (a := (p0 : Int) * 128) (x := p0 * 128) (b := (p1 : Int) * 256) (y := p1 * 256) rfl rfl (by omega) (by omega)).1 rfl (bor_nat (a := (p0 : Int) * 128) (x := p0 * 128) (b := (p1 : Int) * 256) (y := p1 * 256) rfl rfl (by omega) (by omega)).2 (by omega)).1 rfl (bor_nat (x := (p0 * 128 ||| p1 * 256)) (b := (ra : Int) * 32768) (y := ra * 32768) (bor_nat (a := (p0 : Int) * 128) (x := p0 * 128) (b := (p1 : Int) * 256) (y := p1 * 256) rfl rfl (by omega) (by omega)).1 rfl (bor_nat (a := (p0 : Int) * 128) (x := p0 * 128) (b := (p1 : Int) * 256) (y := p1 * 256) rfl rfl (by omega) (by omega)).2 (by omega)).2 (by omega)).1 rfl (bor_nat (x := ((p0 * 128 ||| p1 * 256) ||| ra * 32768)) (b := (rb : Int) * 1048576) (y := rb * 1048576) (bor_nat (x := (p0 * 128 ||| p1 * 256)) (b := (ra : Int) * 32768) (y := ra * 32768) (bor_nat (a := (p0 : Int) * 128) (x := p0 * 128) (b := (p1 : Int) * 256) (y := p1 * 256) rfl rfl (by omega) (by omega)).1 rfl (bor_nat (a := (p0 : Int) * 128) (x := p0 * 128) (b := (p1 : Int) * 256) (y := p1 * 256) rfl rfl (by omega) (by omega)).2 (by omega)).1 rfl (bor_nat (x := (p0 * 128 ||| p1 * 256)) (b := (ra : Int) * 32768) (y := ra * 32768) (bor_nat (a := (p0 : Int) * 128) (x := p0 * 128) (b := (p1 : Int) * 256) (y := p1 * 256) rfl rfl (by omega) (by omega)).1 rfl (bor_nat (a := (p0 : Int) * 128) (x := p0 * 128) (b := (p1 : Int) * 256) (y := p1 * 256) rfl rfl (by omega) (by omega)).2 (by omega)).2 (by omega)).2 (by omega)).2 (by omega)).2).1, nest_66 l m p0 p1 ra rb p2 p3 (by omega) (by omega) (by omega) (by omega) (by omega) (by omega) (by omega) (by omega)]
  simp
theorem nest_85 (l rd p0 : Nat) (hl : l < 128) (hrd : rd < 32) (hp0 : p0 < 1048576) : ((l ||| 0 * 4096) ||| (rd * 128 ||| p0 * 4096)) = l + rd * 128 + p0 * 4096 := by
  rw [show ((l ||| 0 * 4096) ||| (rd * 128 ||| p0 * 4096)) = ((l ||| rd * 128) ||| p0 * 4096) from by simp only [Nat.zero_mul, Nat.or_zero]; ac_rfl]
  rw [or_lo (l) rd 128 7 (by decide) (by omega)]
  rw [or_lo (l + rd * 128) p0 4096 12 (by decide) (by omega)]
theorem raw_85 (l m rd ra rb n h : Int) (hl : 0 ≤ l ∧ l < 128) (hm : 0 ≤ m ∧ m < 8) (hrd : 0 ≤ rd ∧ rd < 32) (hra : 0 ≤ ra ∧ ra < 32) (hrb : 0 ≤ rb ∧ rb < 32) (hh : 0 ≤ h ∧ h < 128) (hm0 : m = 0) :
    rawE 85 rd ra rb n l m h = l + rd * 128 + n / 4096 % 1048576 * 4096 := by
  have e : rawE 85 rd ra rb n l m h = bor (bor (l) (m * 4096)) (bor (rd * 128) (n / 4096 % 1048576 * 4096)) := by simp [rawE]
  rw [e]
  have hp0 : 0 ≤ n / 4096 % 1048576 ∧ n / 4096 % 1048576 < 1048576 := by omega
  generalize n / 4096 % 1048576 = p0 at *
  subst hm0
  obtain ⟨l, rfl⟩ := Int.eq_ofNat_of_zero_le hl.1
  obtain ⟨rd, rfl⟩ := Int.eq_ofNat_of_zero_le hrd.1
  obtain ⟨p0, rfl⟩ := Int.eq_ofNat_of_zero_le hp0.1
  rw [(bor_nat (x := (l ||| 0 * 4096)) (y := (rd * 128 ||| p0 * 4096)) (bor_nat (x := l) (b := (0 : Int) * 4096) (y := 0 * 4096) rfl rfl (by omega) (by omega)).1 (bor_nat (a := (rd : Int) * 128) (x := rd * 128) (b := (p0 : Int) * 4096) (y := p0 * 4096) rfl rfl (by omega) (by omega)).1 (bor_nat (x := l) (b := (0 : Int) * 4096) (y := 0 * 4096) rfl rfl (by omega) (by omega)).2 (bor_nat (a := (rd : Int) * 128) (x := rd * 128) (b := (p0 : Int) * 4096) (y := p0 * 4096) rfl rfl (by omega) (by omega)).2).1, nest_85 l rd p0 (by omega) (by omega) (by omega)]
  simp
theorem nest_74 (l rd p0 p1 p2 p3 : Nat) (hl : l < 128) (hrd : rd < 32) (hp0 : p0 < 256) (hp1 : p1 < 2) (hp2 : p2 < 1024) (hp3 : p3 < 2) : ((l ||| 0 * 4096) ||| ((((rd * 128 ||| p0 * 4096) ||| p1 * 1048576) ||| p2 * 2097152) ||| p3 * 2147483648)) = l + rd * 128 + p0 * 4096 + p1 * 1048576 + p2 * 2097152 + p3 * 2147483648 := by
  rw [show ((l ||| 0 * 4096) ||| ((((rd * 128 ||| p0 * 4096) ||| p1 * 1048576) ||| p2 * 2097152) ||| p3 * 2147483648)) = (((((l ||| rd * 128) ||| p0 * 4096) ||| p1 * 1048576) ||| p2 * 2097152) ||| p3 * 2147483648) from by simp only [Nat.zero_mul, Nat.or_zero]; ac_rfl]
  rw [or_lo (l) rd 128 7 (by decide) (by omega)]
  rw [or_lo (l + rd * 128) p0 4096 12 (by decide) (by omega)]
  rw [or_lo (l + rd * 128 + p0 * 4096) p1 1048576 20 (by decide) (by omega)]
  rw [or_lo (l + rd * 128 + p0 * 4096 + p1 * 1048576) p2 2097152 21 (by decide) (by omega)]
  rw [or_lo (l + rd * 128 + p0 * 4096 + p1 * 1048576 + p2 * 2097152) p3 2147483648 31 (by decide) (by omega)]
theorem raw_74 (l m rd ra rb n h : Int) (hl : 0 ≤ l ∧ l < 128) (hm : 0 ≤ m ∧ m < 8) (hrd : 0 ≤ rd ∧ rd < 32) (hra : 0 ≤ ra ∧ ra < 32) (hrb : 0 ≤ rb ∧ rb < 32) (hh : 0 ≤ h ∧ h < 128) (hm0 : m = 0) :
    rawE 74 rd ra rb n l m h = l + rd * 128 + n / 4096 % 256 * 4096 + n / 2048 % 2 * 1048576 + n / 2 % 1024 * 2097152 + n / 1048576 % 2 * 2147483648 := by
  have e : rawE 74 rd ra rb n l m h = bor (bor (l) (m * 4096)) (bor (bor (bor (bor (rd * 128) (n / 4096 % 256 * 4096)) (n / 2048 % 2 * 1048576)) (n / 2 % 1024 * 2097152)) (n / 1048576 % 2 * 2147483648)) := by simp [rawE]
  rw [e]
  have hp0 : 0 ≤ n / 4096 % 256 ∧ n / 4096 % 256 < 256 := by omega
  generalize n / 4096 % 256 = p0 at *
  have hp1 : 0 ≤ n / 2048 % 2 ∧ n / 2048 % 2 < 2 := by omega
  generalize n / 2048 % 2 = p1 at *
  have hp2 : 0 ≤ n / 2 % 1024 ∧ n / 2 % 1024 < 1024 := by omega
  generalize n / 2 % 1024 = p2 at *
  have hp3 : 0 ≤ n / 1048576 % 2 ∧ n / 1048576 % 2 < 2 := by omega
  generalize n / 1048576 % 2 = p3 at *
  subst hm0
  obtain ⟨l, rfl⟩ := Int.eq_ofNat_of_zero_le hl.1
  obtain ⟨rd, rfl⟩ := Int.eq_ofNat_of_zero_le hrd.1
  obtain ⟨p0, rfl⟩ := Int.eq_ofNat_of_zero_le hp0.1
  obtain ⟨p1, rfl⟩ := Int.eq_ofNat_of_zero_le hp1.1
  obtain ⟨p2, rfl⟩ := Int.eq_ofNat_of_zero_le hp2.1
  obtain ⟨p3, rfl⟩ := Int.eq_ofNat_of_zero_le hp3.1
  rw [(bor_nat (x := (l ||| 0 * 4096)) (y := ((((rd * 128 ||| p0 * 4096) ||| p1 * 1048576) ||| p2 * 2097152) ||| p3 * 2147483648)) (bor_nat (x := l) (b := (0 : Int) * 4096) (y := 0 * 4096) rfl rfl (by omega) (by omega)).1 (bor_nat (x := (((rd * 128 ||| p0 * 4096) ||| p1 * 1048576) ||| p2 * 2097152)) (b := (p3 : Int) * 2147483648) (y := p3 * 2147483648) (bor_nat (x := ((rd * 128 ||| p0 * 4096) ||| p1 * 1048576)) (b := (p2 : Int) * 2097152) (y := p2 * 2097152) (bor_nat (x := (rd * 128 ||| p0 * 4096)) (b := (p1 : Int) * 1048576) (y := p1 * 1048576) (bor_nat (a := (rd : Int) * 128) (x := rd * 128) (b := (p0 : Int) * 4096) (y := p0 * 4096) rfl rfl (by omega) (by omega)).1 rfl (bor_nat (a := (rd : Int) * 128) (x := rd * 128) (b := (p0 : Int) * 4096) (y := p0 * 4096) rfl rfl (by omega) (by omega)).2 (by omega)).1 rfl (bor_nat (x := (rd * 128 ||| p0 * 4096)) (b := (p1 : Int) * 1048576) (y := p1 * 1048576) (bor_nat (a := (rd : Int) * 128) (x := rd * 128) (b := (p0 : Int) * 4096) (y := p0 * 4096) rfl rfl (by omega) (by omega)).1 rfl (bor_nat (a := (rd : Int) * 128) (x := rd * 128) (b := (p0 : Int) * 4096) (y := p0 * 4096) rfl rfl (by omega) (by omega)).2 (by omega)).2 (by omega)).1 rfl (bor_nat (x := ((rd * 128 ||| p0 * 4096) ||| p1 * 1048576)) (b := (p2 : Int) * 2097152) (y := p2 * 2097152) (bor_nat (x := (rd * 128 ||| p0 * 4096)) (b := (p1 : Int) * 1048576) (y := p1 * 1048576) (bor_nat (a := (rd : Int) * 128) (x := rd * 128) (b := (p0 : Int) * 4096) (y := p0 * 4096) rfl rfl (by omega) (by omega)).1 rfl (bor_nat (a := (rd : Int) * 128) (x := rd * 128) (b := (p0 : Int) * 4096) (y := p0 * 4096) rfl rfl (by omega) (by omega)).2 (by omega)).1 rfl (bor_nat (x := (rd * 128 ||| p0 * 4096)) (b := (p1 : Int) * 1048576) (y := p1 * 1048576) (bor_nat (a := (rd : Int) * 128) (x := rd * 128) (b := (p0 : Int) * 4096) (y := p0 * 4096) rfl rfl (by omega) (by omega)).1 rfl (bor_nat (a := (rd : Int) * 128) (x := rd * 128) (b := (p0 : Int) * 4096) (y := p0 * 4096) rfl rfl (by omega) (by omega)).2 (by omega)).2 (by omega)).2 (by omega)).1 (bor_nat (x := l) (b := (0 : Int) * 4096) (y := 0 * 4096) rfl rfl (by omega) (by omega)).2 (bor_nat (x := (((rd * 128 ||| p0 * 4096) ||| p1 * 1048576) ||| p2 * 2097152)) (b := (p3 : Int) * 2147483648) (y := p3 * 2147483648) (bor_nat (x := ((rd * 128 ||| p0 * 4096) ||| p1 * 1048576)) (b := (p2 : Int) * 2097152) (y := p2 * 2097152) (bor_nat (x := (rd * 128 ||| p0 * 4096)) (b := (p1 : Int) * 1048576) (y := p1 * 1048576) (bor_nat (a := (rd : Int) * 128) (x := rd * 128) (b := (p0 : Int) * 4096) (y := p0 * 4096) rfl rfl (by omega) (by omega)).1 rfl (bor_nat (a := (rd : Int) * 128) (x := rd * 128) (b := (p0 : Int) * 4096) (y := p0 * 4096) rfl rfl (by omega) (by omega)).2 (by omega)).1 rfl (bor_nat (x := (rd * 128 ||| p0 * 4096)) (b := (p1 : Int) * 1048576) (y := p1 * 1048576) (bor_nat (a := (rd : Int) * 128) (x := rd * 128) (b := (p0 : Int) * 4096) (y := p0 * 4096) rfl rfl (by omega) (by omega)).1 rfl (bor_nat (a := (rd : Int) * 128) (x := rd * 128) (b := (p0 : Int) * 4096) (y := p0 * 4096) rfl rfl (by omega) (by omega)).2 (by omega)).2 (by omega)).1 rfl (bor_nat (x := ((rd * 128 ||| p0 * 4096) ||| p1 * 1048576)) (b := (p2 : Int) * 2097152) (y := p2 * 2097152) (bor_nat (x := (rd * 128 ||| p0 * 4096)) (b := (p1 : Int) * 1048576) (y := p1 * 1048576) (bor_nat (a := (rd : Int) * 128) (x := rd * 128) (b := (p0 : Int) * 4096) (y := p0 * 4096) rfl rfl (by omega) (by omega)).1 rfl (bor_nat (a := (rd : Int) * 128) (x := rd * 128) (b := (p0 : Int) * 4096) (y := p0 * 4096) rfl rfl (by omega) (by omega)).2 (by omega)).1 rfl (bor_nat (x := (rd * 128 ||| p0 * 4096)) (b := (p1 : Int) * 1048576) (y := p1 * 1048576) (bor_nat (a := (rd : Int) * 128) (x := rd * 128) (b := (p0 : Int) * 4096) (y := p0 * 4096) rfl rfl (by omega) (by omega)).1 rfl (bor_nat (a := (rd : Int) * 128) (x := rd * 128) (b := (p0 : Int) * 4096) (y := p0 * 4096) rfl rfl (by omega) (by omega)).2 (by omega)).2 (by omega)).2 (by omega)).2).1, nest_74 l rd p0 p1 p2 p3 (by omega) (by omega) (by omega) (by omega) (by omega) (by omega)]
  simp
theorem nest_69 (l m : Nat) (hl : l < 128) (hm : m < 8) : (l ||| m * 4096) = l + m * 4096 := by
  rw [show (l ||| m * 4096) = (l ||| m * 4096) from by ac_rfl]
  rw [or_lo (l) m 4096 12 (by decide) (by omega)]
theorem raw_69 (l m rd ra rb n h : Int) (hl : 0 ≤ l ∧ l < 128) (hm : 0 ≤ m ∧ m < 8) (hrd : 0 ≤ rd ∧ rd < 32) (hra : 0 ≤ ra ∧ ra < 32) (hrb : 0 ≤ rb ∧ rb < 32) (hh : 0 ≤ h ∧ h < 128) :
    rawE 69 rd ra rb n l m h = l + m * 4096 := by
  have e : rawE 69 rd ra rb n l m h = bor (l) (m * 4096) := by simp [rawE]
  rw [e]
  obtain ⟨l, rfl⟩ := Int.eq_ofNat_of_zero_le hl.1
  obtain ⟨m, rfl⟩ := Int.eq_ofNat_of_zero_le hm.1
  rw [(bor_nat (x := l) (b := (m : Int) * 4096) (y := m * 4096) rfl rfl (by omega) (by omega)).1, nest_69 l m (by omega) (by omega)]
  simp
end Go.Proofs.YtodgkbcgdbhpeaaGreatDoor.WordP

/- The instruction that a word is, by the reference: plain laws, and the reference's small tables in one piece each. No conditions. -/
import Derived.Test.YtgeajgdddjjjnaaDoorRefEnc
namespace Go.Proofs.YtgeajgdddjjjnaaDoor.RefP
open Go.RowKit Go.Proofs.YtgeajgdddjjjnaaDoor.Wo Go.Proofs.YtgeajgdddjjjnaaDoor.WordP Go.Proofs.YtgeajgdddjjjnaaDoor.AluP
set_option linter.unusedVariables false
set_option linter.unusedSimpArgs false
/-- Which registers a kind has, as letters. -/
def hasOf (k : Int) : ByteArray :=
  if k = 82 then ⟨#[100, 97, 98]⟩ else if k = 73 ∨ k = 72 then ⟨#[100, 97]⟩ else if k = 83 ∨ k = 66 then ⟨#[97, 98]⟩ else if k = 85 ∨ k = 74 then ⟨#[100]⟩ else ⟨#[]⟩
/-- Where a kind's number lies: from which bit, how many, to which one. -/
def piecesOf (k : Int) : List (Nat × Nat × Nat) :=
  if k = 73 then [(0, 12, 20)] else if k = 72 then [(0, 6, 20)] else if k = 83 then [(0, 5, 7), (5, 7, 25)] else if k = 66 then [(11, 1, 7), (1, 4, 8), (5, 6, 25), (12, 1, 31)]
  else if k = 85 then [(12, 20, 12)] else if k = 74 then [(12, 8, 12), (11, 1, 20), (1, 10, 21), (20, 1, 31)] else []
def bitsOf (k : Int) : Int := if k = 73 ∨ k = 83 then 12 else if k = 66 then 13 else if k = 85 then 32 else if k = 74 then 21 else 0
def ofOf (k : Int) : Int := if k = 66 ∨ k = 74 then 2 else if k = 85 then 4096 else 1
def KindIn (k : Int) : Prop := k = 82 ∨ k = 73 ∨ k = 72 ∨ k = 83 ∨ k = 66 ∨ k = 85 ∨ k = 74 ∨ k = 69
theorem kind_in {p : Int} (h1 : 1 ≤ p) (h2 : p ≤ 31) : KindIn (kindOf p) := by
  rcases (tab_ok p h1 h2).2 with k | k | k | k | k | k | k | ⟨k, _⟩ <;> simp [KindIn, k]
theorem has_any (k : Int) (W : World) (hk : KindIn k) : Calls Tryd.prog 44 #[.int .u8 k] W fun e W' => e = .returned (.string (hasOf k)) ∧ W = W' := by
  rcases hk with rfl | rfl | rfl | rfl | rfl | rfl | rfl | rfl
  · exact has_82 W
  · exact has_73 W
  · exact has_72 W
  · exact has_83 W
  · exact has_66 W
  · exact has_85 W
  · exact has_74 W
  · exact has_69 W
theorem signs_any (k : Int) (W : World) (hk : KindIn k) : Calls Tryd.prog 50 #[.int .u8 k] W fun e W' => e = .returned (.tuple #[.int .i64 (bitsOf k), .int .i64 (ofOf k)]) ∧ W = W' := by
  rcases hk with rfl | rfl | rfl | rfl | rfl | rfl | rfl | rfl
  · exact signs_82 W
  · exact signs_73 W
  · exact signs_72 W
  · exact signs_83 W
  · exact signs_66 W
  · exact signs_85 W
  · exact signs_74 W
  · exact signs_69 W
/-- A list of pieces lies in memory. -/
def PiecesAt (W : World) (a : Option Addr) (ps : List (Nat × Nat × Nat)) : Prop :=
  ∀ j f c t : Nat, ps[j]? = some (f, c, t) → ∃ g, a = some ⟨g, 0, none⟩ ∧ W.cell? ⟨g, j * 3, none⟩ = some (.int .i64 f) ∧ W.cell? ⟨g, j * 3 + 1, none⟩ = some (.int .i64 c) ∧ W.cell? ⟨g, j * 3 + 2, none⟩ = some (.int .i64 t)
theorem PiecesAt.mods {W W' : World} {a : Option Addr} {ps : List (Nat × Nat × Nat)} (h : PiecesAt W a ps) (hm : Mods None W W') : PiecesAt W' a ps := fun j f c t hj => by
  obtain ⟨g, h1, h2, h3, h4⟩ := h j f c t hj
  exact ⟨g, h1, hm.cellOf h2 (fun f => f), hm.cellOf h3 (fun f => f), hm.cellOf h4 (fun f => f)⟩
theorem pieces_new (W : World) (ps : List (Nat × Nat × Nat)) (cs : Array Value) (ty : TypeId) (h : cs.toList = ps.flatMap fun p => [Value.int .i64 p.1, Value.int .i64 p.2.1, Value.int .i64 p.2.2]) : PiecesAt (W.alloc (.cells cs ty)) (some ⟨W.heap.size, 0, none⟩) ps := by
  intro j f c t hj
  have hb := Blk.new W cs ty
  have hg : ∀ (l : List (Nat × Nat × Nat)) (j : Nat), l[j]? = some (f, c, t) → ∀ i, i < 3 → (l.flatMap fun p => [Value.int .i64 p.1, Value.int .i64 p.2.1, Value.int .i64 p.2.2])[3 * j + i]? = [Value.int .i64 f, Value.int .i64 c, Value.int .i64 t][i]? := by
    intro l
    induction l with
    | nil => intro j hj; simp at hj
    | cons p l ih =>
      intro j hj i hi
      cases j with
      | zero =>
        simp at hj
        subst hj
        simp only [List.flatMap_cons, Nat.mul_zero, Nat.zero_add]
        rw [List.getElem?_append_left (by simpa using hi)]
      | succ j =>
        simp only [List.flatMap_cons]
        rw [List.getElem?_append_right (by simp; omega)]
        have := ih j (by simpa using hj) i hi
        rw [← this]
        congr 1
        simp
        omega
  refine ⟨_, rfl, hb.cell ?_, hb.cell ?_, hb.cell ?_⟩
  · rw [h, Nat.mul_comm j 3, ← Nat.add_zero (3 * j), hg ps j hj 0 (by decide)]; rfl
  · rw [h, Nat.mul_comm j 3, hg ps j hj 1 (by decide)]; rfl
  · rw [h, Nat.mul_comm j 3, hg ps j hj 2 (by decide)]; rfl
def PiecesTold (ps : List (Nat × Nat × Nat)) (W : World) (e : Ending) (W' : World) : Prop := ∃ a, e = .returned (.slice a ps.length ps.length) ∧ PiecesAt W' a ps ∧ Mods None W W' ∧ ∀ x, a = some x → W.heap.size ≤ x.block
theorem pieces_any (k : Int) (W : World) (hk : KindIn k) : Calls Tryd.prog 45 #[.int .u8 k] W (PiecesTold (piecesOf k) W) := by
  have hz : PiecesTold [] W (.returned (.slice none 0 0)) W := ⟨_, rfl, fun j f c t hj => by simp at hj, Mods.refl _ _, fun x hx => by cases hx⟩
  rcases hk with rfl | rfl | rfl | rfl | rfl | rfl | rfl | rfl
  · exact (pieces_82 W).mono fun e W' ⟨he, hw⟩ => by subst he hw; exact hz
  · exact (pieces_73 W).mono fun e W' ⟨he, hw⟩ => by subst he hw; exact ⟨_, rfl, pieces_new W _ _ _ rfl, (Mods.refl _ _).alloc _, fun x hx => by cases hx; exact Nat.le_refl _⟩
  · exact (pieces_72 W).mono fun e W' ⟨he, hw⟩ => by subst he hw; exact ⟨_, rfl, pieces_new W _ _ _ rfl, (Mods.refl _ _).alloc _, fun x hx => by cases hx; exact Nat.le_refl _⟩
  · exact (pieces_83 W).mono fun e W' ⟨he, hw⟩ => by subst he hw; exact ⟨_, rfl, pieces_new W _ _ _ rfl, (Mods.refl _ _).alloc _, fun x hx => by cases hx; exact Nat.le_refl _⟩
  · exact (pieces_66 W).mono fun e W' ⟨he, hw⟩ => by subst he hw; exact ⟨_, rfl, pieces_new W _ _ _ rfl, (Mods.refl _ _).alloc _, fun x hx => by cases hx; exact Nat.le_refl _⟩
  · exact (pieces_85 W).mono fun e W' ⟨he, hw⟩ => by subst he hw; exact ⟨_, rfl, pieces_new W _ _ _ rfl, (Mods.refl _ _).alloc _, fun x hx => by cases hx; exact Nat.le_refl _⟩
  · exact (pieces_74 W).mono fun e W' ⟨he, hw⟩ => by subst he hw; exact ⟨_, rfl, pieces_new W _ _ _ rfl, (Mods.refl _ _).alloc _, fun x hx => by cases hx; exact Nat.le_refl _⟩
  · exact (pieces_69 W).mono fun e W' ⟨he, hw⟩ => by subst he hw; exact hz
/-- What a list of pieces says of a word. -/
def gather (w : Int) : List (Nat × Nat × Nat) → Int
  | [] => 0
  | (f, c, t) :: r => w / 2 ^ t % 2 ^ c * 2 ^ f + gather w r
theorem gather_snoc (w : Int) (p : Nat × Nat × Nat) : ∀ l : List (Nat × Nat × Nat), gather w (l ++ [p]) = gather w l + w / 2 ^ p.2.2 % 2 ^ p.2.1 * 2 ^ p.1
  | [] => by simp [gather]
  | q :: l => by simp only [List.cons_append, gather, gather_snoc w p l]; omega
theorem gather_bound (w : Int) (k : Int) (hk : KindIn k) (j : Nat) : 0 ≤ gather w ((piecesOf k).take j) ∧ gather w ((piecesOf k).take j) < 4294967296 := by
  rcases hk with rfl | rfl | rfl | rfl | rfl | rfl | rfl | rfl
  all_goals
    simp only [piecesOf]
    rcases j with _ | _ | _ | _ | j <;> simp [gather] <;> omega
theorem piece_bound (k : Int) (hk : KindIn k) (j f c t : Nat) (h : (piecesOf k)[j]? = some (f, c, t)) : j < 4 ∧ f + c ≤ 32 ∧ t + c ≤ 32 := by
  rcases hk with rfl | rfl | rfl | rfl | rfl | rfl | rfl | rfl
  all_goals
    simp only [piecesOf] at h
    rcases j with _ | _ | _ | _ | j <;> simp at h <;> omega
/-- A number with its sign. -/
def signed (bits n : Int) : Int := if 0 < bits ∧ 2 ^ (bits - 1).toNat ≤ n then n - 2 ^ bits.toNat else n
theorem n_gather (w k : Int) (hk : KindIn k) : signed (bitsOf k) (gather w (piecesOf k)) = nOf k w := by
  rcases hk with rfl | rfl | rfl | rfl | rfl | rfl | rfl | rfl
  all_goals
    simp [bitsOf, piecesOf, gather, signed, nOf, sgn]
    try (split <;> split <;> omega)
/-- The registers that a kind's letters say, so many of them. -/
def regLetter (c : UInt8) (l : List UInt8) (n : Int) : Int := if c ∈ l then n else 0
theorem rd_has (w k : Int) (hk : KindIn k) : regLetter 100 (hasOf k).data.toList (w / 128 % 32) = rdOf k w := by
  rcases hk with rfl | rfl | rfl | rfl | rfl | rfl | rfl | rfl <;> simp [regLetter, hasOf, rdOf]
theorem ra_has (w k : Int) (hk : KindIn k) : regLetter 97 (hasOf k).data.toList (w / 32768 % 32) = raOf k w := by
  rcases hk with rfl | rfl | rfl | rfl | rfl | rfl | rfl | rfl <;> simp [regLetter, hasOf, raOf]
theorem rb_has (w k : Int) (hk : KindIn k) : regLetter 98 (hasOf k).data.toList (w / 1048576 % 32) = rbOf k w := by
  rcases hk with rfl | rfl | rfl | rfl | rfl | rfl | rfl | rfl <;> simp [regLetter, hasOf, rbOf]
/-- The reference's test is the program's. -/
theorem hit_ref (w o : Int) (h : (ofWord w o).right = true) (hw : (ofWord w o).word = w) : hit w o = true := by
  obtain ⟨_, lx, _⟩ := ins_back (ofWord w o) h
  rw [hw] at lx
  have lx' : like w o = true := lx
  simp [hit, lx', h, hw]
theorem hit_low (w o : Int) (h : lowOf o ≠ w % 128) : hit w o = false := by simp [hit, like, h]
theorem hit_not (w o : Int) (h : (ofWord w o).right = false) : hit w o = false := by simp [hit, h]
theorem hit_word (w o : Int) (h : (ofWord w o).word ≠ w) : hit w o = false := by simp [hit, h]
theorem iter_mods {S : Nat → Prop} {a w : World} (h : Mods S a w) {g : Nat} (hg : a.heap.size ≤ g) (s : ByteArray) (p : Nat) : Mods S a (w.iterAt g s p) :=
  ⟨h.os, h.output, by rw [Lib.iterAt_size]; exact h.size, fun i hi hn => (Lib.iterAt_other w g i s p (by omega)).trans (h.block i hi hn)⟩
theorem iter_blk {w : World} {b : Nat} {cs : List Value} {t : TypeId} (h : Blk w b cs t) {g : Nat} (hg : b ≠ g) (s : ByteArray) (p : Nat) : Blk (w.iterAt g s p) b cs t := (Lib.iterAt_other w g b s p hg).trans h
theorem iter_set {w : World} {g : Nat} {s : ByteArray} {p : Nat} (h : w.heap[g]? = some (.stringIter s p)) {a : Addr} (ha : g ≠ a.block) (v : Value) : (w.setCell a v).heap[g]? = some (.stringIter s p) := (heap_setCell_other w a g v ha).trans h
theorem has_letters (k : Int) (hk : KindIn k) : ∀ c ∈ (hasOf k).data.toList, c = 100 ∨ c = 97 ∨ c = 98 := by
  rcases hk with rfl | rfl | rfl | rfl | rfl | rfl | rfl | rfl <;> decide
theorem has_letter (k : Int) (hk : KindIn k) (i : Nat) (h : i < (hasOf k).size) : ((hasOf k)[i]'h = 100 ∨ (hasOf k)[i]'h = 97 ∨ (hasOf k)[i]'h = 98) :=
  has_letters k hk _ (by
    have h' : i < (hasOf k).data.toList.length := by simpa using h
    have : (hasOf k)[i]'h = (hasOf k).data.toList[i]'h' := rfl
    rw [this]
    exact List.getElem_mem _)
theorem reg_snoc (s : ByteArray) (i : Nat) (h : i < s.size) (c : UInt8) (n : Int) : regLetter c (s.data.toList.take (i + 1)) n = if s[i]'h = c then n else regLetter c (s.data.toList.take i) n := by
  have e : s.data.toList.take (i + 1) = s.data.toList.take i ++ [s[i]'h] := by
    rw [List.take_succ_eq_append_getElem (by simpa using h)]; rfl
  rw [e]
  unfold regLetter
  by_cases h1 : s[i]'h = c
  · simp [h1]
  · simp [h1, Ne.symm h1]
theorem take_one {α : Type} {l : List α} {j : Nat} {x : α} (h : l[j]? = some x) : l.take (j + 1) = l.take j ++ [x] := by
  rw [List.take_add_one, h]; rfl
theorem low_bit (x : Int) (hx : 0 ≤ x ∧ x < 4294967296) : bits BinOp.and IntKind.u32 x 1 = x % 2 := and_mask x 1 (by decide) _ (by decide)
theorem pow_cast (k : Nat) : ((2 : Int) ^ k) = ((2 ^ k : Nat) : Int) := by simp
theorem wrap_sum (G q z : Int) (h1 : 0 ≤ G ∧ G < 4294967296) (h2 : 0 ≤ q ∧ q ≤ 2147483648) (h3 : 0 ≤ z ∧ z ≤ 2147483648) : wrap64 (G + q + wrap64 z) = G + (q + z) := by
  unfold wrap64; omega
theorem bit_nat (n t i f : Nat) : n / 2 ^ t % 2 ^ (i + 1) * 2 ^ f = n / 2 ^ t % 2 ^ i * 2 ^ f + n / 2 ^ (t + i) % 2 * 2 ^ (f + i) := by
  rw [Nat.pow_succ, Nat.mod_mul, Nat.div_div_eq_div_mul, ← Nat.pow_add, Nat.add_mul, Nat.pow_add 2 f i]
  congr 1
  rw [Nat.mul_comm (2 ^ i) _, Nat.mul_assoc, Nat.mul_comm (2 ^ i) (2 ^ f)]
theorem pow_le31 {k : Nat} (h : k ≤ 31) : 2 ^ k ≤ 2147483648 := Nat.le_trans (Nat.pow_le_pow_right (n := 2) (by decide) h) (by decide)
theorem wrap_bit (y : Nat) (h : y < 2) : wrap64 (y : Int) = (y : Int) := by unfold wrap64; omega
theorem bit_le (y u : Nat) (h : y < 2) : y * u ≤ u := by
  have : y * u ≤ 1 * u := Nat.mul_le_mul_right _ (Nat.le_of_lt_succ h)
  rwa [Nat.one_mul] at this
theorem bit_fin (G : Int) (q x u : Nat) (hG : 0 ≤ G ∧ G < 4294967296) (hq : q ≤ 2147483648) (hu : u ≤ 2147483648) (hx : x < 4294967296) :
    wrap64 (G + (q : Int) + wrap64 (wrap64 (bits BinOp.and IntKind.u32 (x : Int) 1) * (u : Int))) = G + ((q + x % 2 * u : Nat) : Int) := by
  have e4 : bits BinOp.and IntKind.u32 (x : Int) 1 = ((x % 2 : Nat) : Int) := by rw [low_bit _ (by omega)]; rfl
  have hy : x % 2 < 2 := Nat.mod_lt _ (by decide)
  rw [e4, wrap_bit _ hy]
  have m4 := bit_le (x % 2) u hy
  have e6 : ((x % 2 : Nat) : Int) * (u : Int) = ((x % 2 * u : Nat) : Int) := (Int.natCast_mul _ _).symm
  rw [e6]
  clear e6 e4 hy
  obtain ⟨z, hz⟩ : ∃ z, z = x % 2 * u := ⟨_, rfl⟩
  rw [← hz] at m4 ⊢
  clear hz
  rw [wrap_sum G q z hG (by omega) (by omega), Int.natCast_add]
theorem bit_step (w G : Int) (t i f c : Nat) (hw : 0 ≤ w ∧ w < 4294967296) (hG : 0 ≤ G ∧ G < 4294967296) (hi : i < c) (hf : f + c ≤ 32) (ht : t + c ≤ 32) :
    wrap64 (G + w / 2 ^ t % 2 ^ i * 2 ^ f + wrap64 (wrap64 (bits BinOp.and IntKind.u32 (w / 2 ^ (t + i)) 1) * 2 ^ (f + i))) = G + w / 2 ^ t % 2 ^ (i + 1) * 2 ^ f := by
  obtain ⟨n, rfl⟩ := Int.eq_ofNat_of_zero_le hw.1
  have e1 : (n : Int) / 2 ^ (t + i) = ((n / 2 ^ (t + i) : Nat) : Int) := by rw [pow_cast]; rfl
  have e2 : (n : Int) / 2 ^ t % 2 ^ i * 2 ^ f = ((n / 2 ^ t % 2 ^ i * 2 ^ f : Nat) : Int) := by rw [pow_cast, pow_cast, pow_cast]; rfl
  have e3 : (n : Int) / 2 ^ t % 2 ^ (i + 1) * 2 ^ f = ((n / 2 ^ t % 2 ^ (i + 1) * 2 ^ f : Nat) : Int) := by rw [pow_cast, pow_cast, pow_cast]; rfl
  have b1 : n / 2 ^ (t + i) ≤ n := Nat.div_le_self _ _
  have hn : n < 4294967296 := by omega
  have p1 : 2 ^ (f + i) ≤ 2147483648 := pow_le31 (by omega)
  have m1 : n / 2 ^ t % 2 ^ i < 2 ^ i := Nat.mod_lt _ (Nat.two_pow_pos i)
  have m2 : n / 2 ^ t % 2 ^ i * 2 ^ f ≤ 2 ^ (f + i) := by
    have := Nat.mul_le_mul_right (2 ^ f) (Nat.le_of_lt m1)
    rwa [← Nat.pow_add, Nat.add_comm i f] at this
  have s1 := bit_nat n t i f
  have hx : n / 2 ^ (t + i) < 4294967296 := Nat.lt_of_le_of_lt b1 hn
  have hq : n / 2 ^ t % 2 ^ i * 2 ^ f ≤ 2147483648 := Nat.le_trans m2 p1
  rw [e1, e2, e3, s1, pow_cast (f + i)]
  exact bit_fin G _ _ _ hG hq p1 hx
end Go.Proofs.YtgeajgdddjjjnaaDoor.RefP

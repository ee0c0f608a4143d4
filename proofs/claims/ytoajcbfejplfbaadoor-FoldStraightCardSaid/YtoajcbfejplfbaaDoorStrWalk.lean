/- The law FoldStraight walked. Conditions: the two tables lie. -/
import Derived.Test.YtoajcbfejplfbaaDoorStrAdd
import Derived.Test.YtoajcbfejplfbaaDoorMidBoth
import Derived.Test.YtoajcbfejplfbaaDoorNums
namespace Go.Proofs.YtoajcbfejplfbaaDoor.MidP
open Go.RowKit Go.Proofs.YtoajcbfejplfbaaDoor.Wo Go.Maps Go.Proofs.YtoajcbfejplfbaaDoor.TreeP
set_option linter.unusedVariables false
set_option linter.unusedSimpArgs false
theorem Lin.nil : Lin [] [] := ⟨rfl, (fun v hv => by cases hv), (fun i s hs => by simp at hs)⟩
theorem Lin.snoc {l : List Stp} {vals : List Int} (h : Lin l vals) {x : Stp} {v : Int} (hv : N64 v) (hn : N64 x.n) (ha : x.args = [])
    (hx : (x.code = 1 ∧ x.n = v) ∨ (∃ a : Nat, x.code = 2 ∧ x.a = (a : Int) ∧ vals[a]? = some v) ∨ (∃ (a b : Nat) (y z : Int), x.code = 3 ∧ x.op ∈ opList ∧ x.a = (a : Int) ∧ x.b = (b : Int) ∧ vals[a]? = some y ∧ vals[b]? = some z ∧ bothP x.op y z = (v, 0))) :
    Lin (l ++ [{ x with dst := (l.length : Int) }]) (vals ++ [v]) := by
  have hl := h.len
  have hget : ∀ (a : Nat) (y : Int), vals[a]? = some y → a < l.length ∧ (vals ++ [v])[a]? = some y := fun a y e => by
    have h1 := (List.getElem?_eq_some_iff.1 e).1
    exact ⟨by omega, by rw [List.getElem?_append_left h1]; exact e⟩
  refine ⟨by simp [hl], fun y hy => ?_, fun i s hs => ?_⟩
  · rcases List.mem_append.1 hy with hy | hy
    · exact h.n64 y hy
    · rw [List.mem_singleton] at hy; rw [hy]; exact hv
  · rcases Nat.lt_or_ge i l.length with hi | hi
    · rw [List.getElem?_append_left hi] at hs
      obtain ⟨h1, h2, h3, h4⟩ := h.step i s hs
      have hiv : i < vals.length := by omega
      refine ⟨h1, h2, h3, ?_⟩
      rcases h4 with ⟨e1, e2⟩ | ⟨a, e1, e2, e3, e4⟩ | ⟨a, b, y, z, w, e1, e2, e3, e4, e5, e6, e7, e8, e9, e10⟩
      · exact Or.inl ⟨e1, (hget i _ e2).2⟩
      · refine Or.inr (Or.inl ⟨a, e1, e2, e3, ?_⟩)
        rw [List.getElem?_append_left hiv, List.getElem?_append_left (by omega)]
        exact e4
      · exact Or.inr (Or.inr ⟨a, b, y, z, w, e1, e2, e3, e4, e5, e6, (hget a y e7).2, (hget b z e8).2, (hget i w e9).2, e10⟩)
    · rw [List.getElem?_append_right hi] at hs
      obtain ⟨hi2, hs⟩ := List.getElem?_eq_some_iff.1 hs
      simp only [List.length_singleton] at hi2
      obtain rfl : i = l.length := by omega
      simp only [Nat.sub_self, List.getElem_cons_zero] at hs
      subst hs
      have hlast : (vals ++ [v])[l.length]? = some v := by rw [hl]; simp
      refine ⟨rfl, hn, ha, ?_⟩
      rcases hx with ⟨e1, e2⟩ | ⟨a, e1, e2, e3⟩ | ⟨a, b, y, z, e1, e2, e3, e4, e5, e6, e7⟩
      · exact Or.inl ⟨e1, by rw [hlast, ← e2]⟩
      · obtain ⟨k1, k2⟩ := hget a v e3
        exact Or.inr (Or.inl ⟨a, e1, e2, k1, by rw [hlast, k2]⟩)
      · obtain ⟨k1, k2⟩ := hget a y e5
        obtain ⟨k3, k4⟩ := hget b z e6
        exact Or.inr (Or.inr ⟨a, b, y, z, v, e1, e2, e3, e4, k1, k3, k2, k4, hlast, e7⟩)
/-- The same, with steps that are steps. -/
def LinK (l : List Stp) (vals : List Int) : Prop := Lin l vals ∧ ∀ s ∈ l, StpOk s
theorem LinK.nil : LinK [] [] := ⟨Lin.nil, fun s hs => by cases hs⟩
theorem LinK.snoc {l : List Stp} {vals : List Int} (h : LinK l vals) (hl : l.length ≤ 1000) {x : Stp} {v : Int} (hk : StpOk x) (hv : N64 v) (ha : x.args = [])
    (hx : (x.code = 1 ∧ x.n = v) ∨ (∃ a : Nat, x.code = 2 ∧ x.a = (a : Int) ∧ vals[a]? = some v) ∨ (∃ (a b : Nat) (y z : Int), x.code = 3 ∧ x.op ∈ opList ∧ x.a = (a : Int) ∧ x.b = (b : Int) ∧ vals[a]? = some y ∧ vals[b]? = some z ∧ bothP x.op y z = (v, 0))) :
    LinK (l ++ [{ x with dst := (l.length : Int) }]) (vals ++ [v]) := by
  refine ⟨h.1.snoc hv hk.nums.2.2.2.2.2.1 ha hx, fun s hs => ?_⟩
  rcases List.mem_append.1 hs with hs | hs
  · exact h.2 s hs
  · rw [List.mem_singleton] at hs
    rw [hs]
    obtain ⟨⟨h1, h2, h3⟩, h4, h5⟩ := hk
    exact ⟨⟨h1, by unfold I64; simp only; omega, h3⟩, h4, h5⟩
theorem small64 {a : Int} (h0 : 0 ≤ a) (h1 : a ≤ 100000) : I64 a := by unfold I64; omega
theorem z64 : I64 0 := small64 (by decide) (by decide)
theorem ok_const {v : Int} (hv : N64 v) : StpOk ⟨1, 0, 0, 0, 0, v, [], 0, [], []⟩ :=
  ⟨⟨small64 (a := 1) (by decide) (by decide), z64, z64, z64, z64, hv, z64⟩, ⟨Nat.zero_le _, Nat.zero_le _⟩, fun x hx => by cases hx⟩
theorem ok_copy {a : Nat} (ha : a ≤ 1000) : StpOk ⟨2, 0, (a : Int), 0, 0, 0, [], 0, [], []⟩ :=
  ⟨⟨small64 (a := 2) (by decide) (by decide), z64, small64 (a := (a : Int)) (by omega) (by omega), z64, z64, z64, z64⟩, ⟨Nat.zero_le _, Nat.zero_le _⟩, fun x hx => by cases hx⟩
theorem ok_ret {a : Nat} (ha : a ≤ 1000) : StpOk ⟨8, 0, (a : Int), 0, 0, 0, [], 0, [], []⟩ :=
  ⟨⟨small64 (a := 8) (by decide) (by decide), z64, small64 (a := (a : Int)) (by omega) (by omega), z64, z64, z64, z64⟩, ⟨Nat.zero_le _, Nat.zero_le _⟩, fun x hx => by cases hx⟩
theorem op_len {op : List UInt8} (h : op ∈ opList) : op.length ≤ 20 := by
  unfold opList at h
  simp only [List.mem_cons, List.not_mem_nil, or_false] at h
  rcases h with rfl | rfl | rfl | rfl | rfl | rfl | rfl | rfl | rfl | rfl | rfl <;> decide
theorem ok_two {a b : Nat} {op : List UInt8} (ha : a ≤ 1000) (hb : b ≤ 1000) (ho : op ∈ opList) : StpOk ⟨3, 0, (a : Int), (b : Int), 0, 0, op, 0, [], []⟩ :=
  ⟨⟨small64 (a := 3) (by decide) (by decide), z64, small64 (a := (a : Int)) (by omega) (by omega), small64 (a := (b : Int)) (by omega) (by omega), z64, z64, z64⟩, ⟨Nat.le_trans (op_len ho) (by unfold maxLen; decide), Nat.zero_le _⟩, fun x hx => by cases hx⟩
/-- The marks that are picked of. -/
def marks12 : List (List UInt8) := [[43], [45], [42], [61, 61], [33, 61], [60], [60, 61], [62], [62, 61], [47], [37], [99, 111, 112, 121]]
def mark12 (d : Nat) : List UInt8 := marks12.getD d []
theorem mark_in {d : Nat} (h : d < 11) : mark12 d ∈ opList := by
  match d, h with
  | 0, _ => decide
  | 1, _ => decide
  | 2, _ => decide
  | 3, _ => decide
  | 4, _ => decide
  | 5, _ => decide
  | 6, _ => decide
  | 7, _ => decide
  | 8, _ => decide
  | 9, _ => decide
  | 10, _ => decide
theorem mr_0 (w : World) : Sem.run Tryd.prog (Instr.index 47 (.agg #[.string ⟨#[43]⟩, .string ⟨#[45]⟩, .string ⟨#[42]⟩, .string ⟨#[61, 61]⟩, .string ⟨#[33, 61]⟩, .string ⟨#[60]⟩, .string ⟨#[60, 61]⟩, .string ⟨#[62]⟩, .string ⟨#[62, 61]⟩, .string ⟨#[47]⟩, .string ⟨#[37]⟩, .string ⟨#[99, 111, 112, 121]⟩]) (.int .i64 0)) w = .ok (.string ⟨(mark12 0).toArray⟩) w := by kernel_rfl
theorem mr_1 (w : World) : Sem.run Tryd.prog (Instr.index 47 (.agg #[.string ⟨#[43]⟩, .string ⟨#[45]⟩, .string ⟨#[42]⟩, .string ⟨#[61, 61]⟩, .string ⟨#[33, 61]⟩, .string ⟨#[60]⟩, .string ⟨#[60, 61]⟩, .string ⟨#[62]⟩, .string ⟨#[62, 61]⟩, .string ⟨#[47]⟩, .string ⟨#[37]⟩, .string ⟨#[99, 111, 112, 121]⟩]) (.int .i64 1)) w = .ok (.string ⟨(mark12 1).toArray⟩) w := by kernel_rfl
theorem mr_2 (w : World) : Sem.run Tryd.prog (Instr.index 47 (.agg #[.string ⟨#[43]⟩, .string ⟨#[45]⟩, .string ⟨#[42]⟩, .string ⟨#[61, 61]⟩, .string ⟨#[33, 61]⟩, .string ⟨#[60]⟩, .string ⟨#[60, 61]⟩, .string ⟨#[62]⟩, .string ⟨#[62, 61]⟩, .string ⟨#[47]⟩, .string ⟨#[37]⟩, .string ⟨#[99, 111, 112, 121]⟩]) (.int .i64 2)) w = .ok (.string ⟨(mark12 2).toArray⟩) w := by kernel_rfl
theorem mr_3 (w : World) : Sem.run Tryd.prog (Instr.index 47 (.agg #[.string ⟨#[43]⟩, .string ⟨#[45]⟩, .string ⟨#[42]⟩, .string ⟨#[61, 61]⟩, .string ⟨#[33, 61]⟩, .string ⟨#[60]⟩, .string ⟨#[60, 61]⟩, .string ⟨#[62]⟩, .string ⟨#[62, 61]⟩, .string ⟨#[47]⟩, .string ⟨#[37]⟩, .string ⟨#[99, 111, 112, 121]⟩]) (.int .i64 3)) w = .ok (.string ⟨(mark12 3).toArray⟩) w := by kernel_rfl
theorem mr_4 (w : World) : Sem.run Tryd.prog (Instr.index 47 (.agg #[.string ⟨#[43]⟩, .string ⟨#[45]⟩, .string ⟨#[42]⟩, .string ⟨#[61, 61]⟩, .string ⟨#[33, 61]⟩, .string ⟨#[60]⟩, .string ⟨#[60, 61]⟩, .string ⟨#[62]⟩, .string ⟨#[62, 61]⟩, .string ⟨#[47]⟩, .string ⟨#[37]⟩, .string ⟨#[99, 111, 112, 121]⟩]) (.int .i64 4)) w = .ok (.string ⟨(mark12 4).toArray⟩) w := by kernel_rfl
theorem mr_5 (w : World) : Sem.run Tryd.prog (Instr.index 47 (.agg #[.string ⟨#[43]⟩, .string ⟨#[45]⟩, .string ⟨#[42]⟩, .string ⟨#[61, 61]⟩, .string ⟨#[33, 61]⟩, .string ⟨#[60]⟩, .string ⟨#[60, 61]⟩, .string ⟨#[62]⟩, .string ⟨#[62, 61]⟩, .string ⟨#[47]⟩, .string ⟨#[37]⟩, .string ⟨#[99, 111, 112, 121]⟩]) (.int .i64 5)) w = .ok (.string ⟨(mark12 5).toArray⟩) w := by kernel_rfl
theorem mr_6 (w : World) : Sem.run Tryd.prog (Instr.index 47 (.agg #[.string ⟨#[43]⟩, .string ⟨#[45]⟩, .string ⟨#[42]⟩, .string ⟨#[61, 61]⟩, .string ⟨#[33, 61]⟩, .string ⟨#[60]⟩, .string ⟨#[60, 61]⟩, .string ⟨#[62]⟩, .string ⟨#[62, 61]⟩, .string ⟨#[47]⟩, .string ⟨#[37]⟩, .string ⟨#[99, 111, 112, 121]⟩]) (.int .i64 6)) w = .ok (.string ⟨(mark12 6).toArray⟩) w := by kernel_rfl
theorem mr_7 (w : World) : Sem.run Tryd.prog (Instr.index 47 (.agg #[.string ⟨#[43]⟩, .string ⟨#[45]⟩, .string ⟨#[42]⟩, .string ⟨#[61, 61]⟩, .string ⟨#[33, 61]⟩, .string ⟨#[60]⟩, .string ⟨#[60, 61]⟩, .string ⟨#[62]⟩, .string ⟨#[62, 61]⟩, .string ⟨#[47]⟩, .string ⟨#[37]⟩, .string ⟨#[99, 111, 112, 121]⟩]) (.int .i64 7)) w = .ok (.string ⟨(mark12 7).toArray⟩) w := by kernel_rfl
theorem mr_8 (w : World) : Sem.run Tryd.prog (Instr.index 47 (.agg #[.string ⟨#[43]⟩, .string ⟨#[45]⟩, .string ⟨#[42]⟩, .string ⟨#[61, 61]⟩, .string ⟨#[33, 61]⟩, .string ⟨#[60]⟩, .string ⟨#[60, 61]⟩, .string ⟨#[62]⟩, .string ⟨#[62, 61]⟩, .string ⟨#[47]⟩, .string ⟨#[37]⟩, .string ⟨#[99, 111, 112, 121]⟩]) (.int .i64 8)) w = .ok (.string ⟨(mark12 8).toArray⟩) w := by kernel_rfl
theorem mr_9 (w : World) : Sem.run Tryd.prog (Instr.index 47 (.agg #[.string ⟨#[43]⟩, .string ⟨#[45]⟩, .string ⟨#[42]⟩, .string ⟨#[61, 61]⟩, .string ⟨#[33, 61]⟩, .string ⟨#[60]⟩, .string ⟨#[60, 61]⟩, .string ⟨#[62]⟩, .string ⟨#[62, 61]⟩, .string ⟨#[47]⟩, .string ⟨#[37]⟩, .string ⟨#[99, 111, 112, 121]⟩]) (.int .i64 9)) w = .ok (.string ⟨(mark12 9).toArray⟩) w := by kernel_rfl
theorem mr_10 (w : World) : Sem.run Tryd.prog (Instr.index 47 (.agg #[.string ⟨#[43]⟩, .string ⟨#[45]⟩, .string ⟨#[42]⟩, .string ⟨#[61, 61]⟩, .string ⟨#[33, 61]⟩, .string ⟨#[60]⟩, .string ⟨#[60, 61]⟩, .string ⟨#[62]⟩, .string ⟨#[62, 61]⟩, .string ⟨#[47]⟩, .string ⟨#[37]⟩, .string ⟨#[99, 111, 112, 121]⟩]) (.int .i64 10)) w = .ok (.string ⟨(mark12 10).toArray⟩) w := by kernel_rfl
theorem mr_11 (w : World) : Sem.run Tryd.prog (Instr.index 47 (.agg #[.string ⟨#[43]⟩, .string ⟨#[45]⟩, .string ⟨#[42]⟩, .string ⟨#[61, 61]⟩, .string ⟨#[33, 61]⟩, .string ⟨#[60]⟩, .string ⟨#[60, 61]⟩, .string ⟨#[62]⟩, .string ⟨#[62, 61]⟩, .string ⟨#[47]⟩, .string ⟨#[37]⟩, .string ⟨#[99, 111, 112, 121]⟩]) (.int .i64 11)) w = .ok (.string ⟨(mark12 11).toArray⟩) w := by kernel_rfl
theorem mark_run (d : Nat) (h : d < 12) (w : World) : Sem.run Tryd.prog (Instr.index 47 (.agg #[.string ⟨#[43]⟩, .string ⟨#[45]⟩, .string ⟨#[42]⟩, .string ⟨#[61, 61]⟩, .string ⟨#[33, 61]⟩, .string ⟨#[60]⟩, .string ⟨#[60, 61]⟩, .string ⟨#[62]⟩, .string ⟨#[62, 61]⟩, .string ⟨#[47]⟩, .string ⟨#[37]⟩, .string ⟨#[99, 111, 112, 121]⟩]) (.int .i64 (d : Int))) w = .ok (.string ⟨(mark12 d).toArray⟩) w := by
  match d, h with
  | 0, _ => exact mr_0 w
  | 1, _ => exact mr_1 w
  | 2, _ => exact mr_2 w
  | 3, _ => exact mr_3 w
  | 4, _ => exact mr_4 w
  | 5, _ => exact mr_5 w
  | 6, _ => exact mr_6 w
  | 7, _ => exact mr_7 w
  | 8, _ => exact mr_8 w
  | 9, _ => exact mr_9 w
  | 10, _ => exact mr_10 w
  | 11, _ => exact mr_11 w
theorem copy_mark {d : Nat} (h : d < 12) : ((⟨(mark12 d).toArray⟩ : ByteArray) == ⟨#[99, 111, 112, 121]⟩) = (d == 11) := by
  match d, h with
  | 0, _ => rfl
  | 1, _ => rfl
  | 2, _ => rfl
  | 3, _ => rfl
  | 4, _ => rfl
  | 5, _ => rfl
  | 6, _ => rfl
  | 7, _ => rfl
  | 8, _ => rfl
  | 9, _ => rfl
  | 10, _ => rfl
  | 11, _ => rfl
def AdX (W : World) (fb vb : Nat) (l : List Stp) (vals : List Int) (wr : World) : Prop := ∃ tv sv vv, AdSt W fb vb l vals tv sv vv wr
theorem AdX.start {W w : World} (hW : Mods None W w) : AdX W w.heap.size (w.heap.size + 1) [] [] ((w.alloc (.cells #[mainV, .int .i64 0, .slice none 0 0, .slice none 0 0] 35)).alloc (.cells #[.slice none 0 0] 23)) := by
  refine ⟨.slice none 0 0, .slice none 0 0, .slice none 0 0, (Blk.new w _ _).alloc _, ?_, World.ownsRow_nil _ _ _ _, ⟨[], World.ownsRow_nil _ _ _ _, fun i x hx => by simp at hx⟩, World.ownsRow_nil _ _ _ _, (fun k hk => by cases hk), (fun k hk => by cases hk), (fun k hk => by cases hk), (fun x hx => by cases hx), by omega, ⟨hW.size, by have := hW.size; omega⟩, (hW.alloc _).alloc _⟩
  have := Blk.new (w.alloc (.cells #[mainV, .int .i64 0, .slice none 0 0, .slice none 0 0] 35)) #[.slice none 0 0] 23
  simpa using this
theorem AdSt.drew {W wr : World} {fb vb : Nat} {l : List Stp} {vals : List Int} {tv sv vv : Value} (h : AdSt W fb vb l vals tv sv vv wr) : AdSt W fb vb l vals tv sv vv wr.drew :=
  ⟨h.fn, h.vc, h.ty, h.st, h.va, h.apt, h.aps, h.apv, h.args, h.ne, h.lo, h.mods.drew⟩
theorem AdX.drewN {W wr : World} {fb vb : Nat} {l : List Stp} {vals : List Int} (h : AdX W fb vb l vals wr) (n : Nat) : AdX W fb vb l vals (wr.drewN n) := by
  obtain ⟨tv, sv, vv, h⟩ := h
  exact ⟨tv, sv, vv, h.fn, h.vc, h.ty, h.st, h.va, h.apt, h.aps, h.apv, h.args, h.ne, h.lo, h.mods.drewN n⟩
theorem pick_quiet (y : Int) (n : Nat) (W : World) (h1 : 1 ≤ n) (h2 : n ≤ 1000) : ∃ p : Nat, p < n ∧ Hid (∀ d : Nat, Calls Tryd.prog 17 #[.int .i64 y, .int .i64 (n : Int)] (W.drewN d) fun e w => e = .returned (.int .i64 (p : Int)) ∧ ∃ m, w = W.drewN m) := by
  have hin := pkn_in y n (by omega)
  refine ⟨(pkn y n).toNat, by omega, Lib.hid fun d => (pick_any y n (W.drewN d) (by omega) (by omega)).mono fun e w ⟨k1, k2⟩ => ⟨?_, d, k2.symm⟩⟩
  rw [k1]
  congr 2
  omega
/-- The numbers put together, as they are read. -/
theorem AdX.vals {W wr : World} {fb vb : Nat} {l : List Stp} {vals : List Int} (h : AdX W fb vb l vals wr) : ∃ va vc, wr.cell? ⟨vb, 0, none⟩ = some (.slice va l.length vc) ∧ l.length ≤ vc ∧ vc ≤ 9223372036854775807 ∧ ∀ (i : Nat) (x : Int), vals[i]? = some x → ∃ g, va = some ⟨g, 0, none⟩ ∧ wr.cell? ⟨g, i, none⟩ = some (.int .i64 x) := by
  obtain ⟨tv, sv, vv, h⟩ := h
  obtain ⟨va, vc, rfl⟩ := slice_form h.va
  refine ⟨va, vc, h.vc.cell (i := 0) rfl, ?_⟩
  rcases h.va.2 with ⟨hv, h0⟩ | ⟨g, cap, cur, hv, h3, h4, h5, h6, h7, h8⟩
  · obtain ⟨rfl, -, rfl⟩ := Value.slice.inj hv
    refine ⟨by omega, by omega, fun i x hx => ?_⟩
    have h1 := h.va.1
    rw [List.length_map, h0] at h1
    have := (List.getElem?_eq_some_iff.1 hx).1
    omega
  · obtain ⟨rfl, -, rfl⟩ := Value.slice.inj hv
    refine ⟨h5, by unfold maxLen at h6; omega, fun i x hx => ⟨g, rfl, ?_⟩⟩
    have := h.va.cells (g := g) rfl i (.int .i64 x) (by rw [List.getElem?_map, hx]; rfl)
    rw [add_plain, Nat.zero_add] at this
    exact this
theorem end_one (v : Int) (w : World) : EndV w (1, v, []) (.agg #[.int .i64 1, .int .i64 v, .slice none 0 0]) :=
  ⟨none, 0, rfl, ⟨none, 0, 0, rfl, rfl, Nat.le_refl _, Nat.zero_le _, fun i x hx => by simp at hx⟩, Nat.zero_le _, fun _ => rfl⟩
theorem stps_of_row {w : World} {B n : Nat} {v : Value} {cs : List Value} {l : List Stp} (h : w.ownsRow B 44 10 v n cs) (hr : RelN cs l) (hn : l.length = n) (ha : ∀ s ∈ l, s.args = []) : StpsAt w None v l := by
  obtain ⟨a, c, rfl, h1, h2, h3⟩ := ownsRow_slice h
  refine ⟨a, c, by rw [hn], by omega, h2, fun e => ?_, fun i s hs => ?_⟩
  · rcases Nat.eq_zero_or_pos l.length with h0 | h0
    · exact h0
    · obtain ⟨x, hx⟩ : ∃ x, l[0]? = some x := ⟨_, List.getElem?_eq_getElem h0⟩
      obtain ⟨g, e1, -⟩ := h3 (0 * 10 + 0) (.int .i64 x.code) (hr 0 x hx 0 _ rfl)
      rw [e] at e1; cases e1
  · obtain ⟨g, e1, -, -⟩ := h3 (i * 10 + 0) _ (hr i s hs 0 _ rfl)
    have hc : ∀ k u, (stpL s (.slice none 0 0))[k]? = some u → w.cell? ⟨g, 0 + i * 10 + k, none⟩ = some u := fun k u hk => by
      obtain ⟨g', k1, -, k3⟩ := h3 (i * 10 + k) u (hr i s hs k u hk)
      rw [e1] at k1
      cases k1
      rw [Nat.zero_add]
      exact k3
    exact ⟨g, 0, .slice none 0 0, e1, (fun f => f), ⟨hc 0 _ rfl, hc 1 _ rfl, hc 2 _ rfl, hc 3 _ rfl, hc 4 _ rfl, hc 5 _ rfl, hc 6 _ rfl, hc 7 _ rfl, hc 8 _ rfl, hc 9 _ rfl⟩, by rw [ha s (List.mem_of_getElem? hs)]; exact ⟨none, 0, rfl, Nat.le_refl _, Nat.zero_le _, fun _ => rfl, fun i x hx => by simp at hx⟩⟩
set_option maxRecDepth 100000 in
set_option maxHeartbeats 8000000 in
theorem straight_walk (nv ov hv : Value) (nums ops which : List Int) (W : World) (hn : Wo.NumsAt W nv nums) (ho : Wo.NumsAt W ov ops) (hw : Wo.NumsAt W hv which) (hFo : FormsAt W) (hOp : OpsAt W) :
    Calls Tryd.prog 4 #[nv, ov, hv] W fun e w => e = .returned (.bool true) ∧ Mods None W w := by
  obtain ⟨na, nn, nc, rfl, hn1, hn2, hn3, hn4, hn5, hn6⟩ := hn
  obtain ⟨oa, on, oc, rfl, ho1, ho2, ho3, ho4, ho5, ho6⟩ := ho
  obtain ⟨ha, hn, hc, rfl, hw1, hw2, hw3, hw4, hw5, hw6⟩ := hw
  unfold maxLen at hn3 ho3 hw3
  by_cases hbig : nn ≤ 10 ∧ on ≤ 20 ∧ hn ≤ 40
  · obtain ⟨hb1, hb2, hb3⟩ := hbig
    have hb1' : ¬ ((nn : Int) > 10) := by omega
    have hb2' : ¬ ((on : Int) > 20) := by omega
    have hb3' : ¬ ((hn : Int) > 40) := by omega
    have HFD := Lib.hid (folded_yes W hFo hOp)
    have HT := Lib.hid (And.intro hFo hOp)
    have HN := Lib.hid (And.intro hn1 (And.intro hn5 hn6))
    have HO := Lib.hid (And.intro ho1 (And.intro ho5 ho6))
    have HW := Lib.hid (And.intro hw1 (And.intro hw5 hw6))
    clear hn1 hn5 hn6 ho1 ho5 ho6 hw1 hw5 hw6 hn4 ho4 hw4 hFo hOp
    go_enter Tryd.func4, Tryd.ntmps4
    go_upto_region 5 with (go_at_call 15; refine HFD.out.mono ?_; rintro e w1 ⟨rfl, hm1⟩)
    have HM1 := Lib.hid hm1
    have HX0 := Lib.hid (AdX.start hm1)
    obtain ⟨fb, hfb⟩ : ∃ fb, fb = w1.heap.size := ⟨_, rfl⟩
    rw [← hfb] at HX0
    have HFB := Lib.hid (show fb + 1 < fb + 2 from by omega)
    clear hm1 HFD
    unfold mainV at HX0
    go_upto_region 7 with (fail)
    obtain ⟨W2, hW2⟩ : ∃ W2, W2 = (w1.alloc (.cells #[.string ⟨#[109, 97, 105, 110]⟩, .int .i64 0, .slice none 0 0, .slice none 0 0] 35)).alloc (.cells #[.slice none 0 0] 23) := ⟨_, rfl⟩
    rw [← hW2] at HX0
    rw [← hW2, ← hfb]
    clear hW2 hfb
    obtain ⟨vb, hvb⟩ : ∃ vb, vb = fb + 1 := ⟨_, rfl⟩
    rw [← hvb] at HX0 ⊢
    clear hvb HFB
    go_wp2_with fail
    go_loopw [10] (fun iv wr => ∃ (i : Nat) (l : List Stp) (vals : List Int), i ≤ nn ∧ iv = .int .i64 (i : Int) ∧ Hid (l.length = i) ∧ Hid (LinK l vals) ∧ Hid (AdX W fb vb l vals wr)) (fun iv _ => (nn - intOf iv).toNat)
    case atStart => exact ⟨0, [], [], Nat.zero_le _, rfl, Lib.hid rfl, Lib.hid LinK.nil, HX0⟩
    case round =>
      clear HX0
      obtain ⟨wx, rfl⟩ : ∃ wx : World, wx = wr := ⟨_, rfl⟩
      obtain ⟨i, l, vals, hi, rfl, HL, HLN, HX⟩ := hrel
      by_cases hlt : i < nn
      · obtain ⟨x, hxi⟩ : ∃ x, nums[i]? = some x := ⟨_, List.getElem?_eq_getElem (by rw [← HN.out.1]; exact hlt)⟩
        have hx64 := HN.out.2.1 x (List.mem_of_getElem? hxi)
        obtain ⟨gn, gO, hna, hcx⟩ := HN.out.2.2 i x hxi
        subst hna
        obtain ⟨tv, sv, vv, hst⟩ := HX.out
        have hcx := hst.mods.cellOf hcx (fun f => f)
        have hpi : (i : Int) < (nn : Int) := by omega
        have HST := Lib.hid hst
        have HX64 := Lib.hid hx64
        clear hst hx64 hxi
        have hli : l.length ≤ 1000 := by have := HL.out; omega
        have HAD := Lib.hid (add_any HST.out.drew ⟨1, 0, 0, 0, 0, x, [], 0, [], []⟩ rfl x hli)
        clear hli
        unfold stpL str at HAD
        go_upto_region 11 with (fail)
        go_region_law (go_simp; go_at_call 16; refine HAD.out.mono ?_; rintro e w3 ⟨tv', sv', vv', rfl, hst3⟩)
        all_goals
          go_wp2_with fail
          refine ⟨⟨i + 1, _, _, by omega, by go_num, ?_, ?_, Lib.hid ⟨tv', sv', vv', hst3⟩⟩, by simp [intOf]; omega⟩
          · exact Lib.hid (by rw [List.length_append, HL.out]; rfl)
          · exact Lib.hid (HLN.out.snoc (by rw [HL.out]; omega) (ok_const HX64.out) HX64.out rfl (Or.inl ⟨rfl, rfl⟩))
      · obtain rfl : i = nn := by omega
        have hpi : ¬ (i : Int) < (i : Int) := by omega
        have hbi : ¬ (i : Int) > 10 := by omega
        obtain ⟨va, vc, hcv, hvc1, hvc2, -⟩ := HX.out.vals
        rw [HL.out] at hcv hvc1
        clear hlt
        go_upto_if 56 with (fail)
        go_cut [] (fun w => ∃ (l : List Stp) (vals : List Int), Hid (1 ≤ l.length ∧ l.length ≤ 11) ∧ Hid (LinK l vals) ∧ Hid (AdX W fb vb l vals w))
        case first =>
          by_cases h0 : i = 0
          · have g0 : ((i : Int) == 0) = true := by rw [h0]; rfl
            obtain ⟨tv, sv, vv, hst⟩ := HX.out
            have HAD := Lib.hid (add_any hst ⟨1, 0, 0, 0, 0, 5, [], 0, [], []⟩ rfl 5 (by rw [HL.out]; omega))
            have H0 := Lib.hid h0
            clear h0 hst
            unfold stpL str at HAD
            go_wp2_with fail
            go_at_call 16
            refine HAD.out.mono ?_
            rintro e w3 ⟨tv', sv', vv', rfl, hst3⟩
            go_wp2_with fail
            go_meet
            case rel =>
              have h5 : N64 5 := by unfold N64; omega
              exact ⟨l ++ [⟨1, (l.length : Int), 0, 0, 0, 5, [], 0, [], []⟩], vals ++ [5], Lib.hid (by rw [List.length_append, HL.out, H0.out]; decide), Lib.hid (HLN.out.snoc (by rw [HL.out]; omega) (ok_const h5) h5 rfl (Or.inl ⟨rfl, rfl⟩)), Lib.hid ⟨tv', sv', vv', hst3⟩⟩
          · have g0 : ((i : Int) == 0) = false := by rw [beq_eq_false_iff_ne]; omega
            have H0 := Lib.hid h0
            clear h0
            go_wp2_with fail
            go_meet
            case rel => exact ⟨l, vals, Lib.hid (by rw [HL.out]; have := H0.out; omega), HLN, HX⟩
        case rest =>
        obtain ⟨wz, rfl⟩ : ∃ wz : World, wz = wc := ⟨_, rfl⟩
        obtain ⟨l2, vals2, HL2, HLN2, HX2⟩ := hcut
        clear hcv hvc1 hvc2 HL HLN HX hpi
        go_wp2_with fail
        go_loopw [11] (fun jv wr => ∃ (j : Nat) (l : List Stp) (vals : List Int), j ≤ on ∧ jv = .int .i64 (j : Int) ∧ Hid (1 ≤ l.length ∧ l.length ≤ 11 + j) ∧ Hid (LinK l vals) ∧ Hid (AdX W fb vb l vals wr)) (fun jv _ => (on - intOf jv).toNat)
        case atStart => exact ⟨0, l2, vals2, Nat.zero_le _, rfl, HL2, HLN2, HX2⟩
        case round =>
          clear HL2 HLN2 HX2
          obtain ⟨wy, rfl⟩ : ∃ wy : World, wy = wr := ⟨_, rfl⟩
          obtain ⟨j, l, vals, hj, rfl, HL, HLN, HX⟩ := hrel
          by_cases hlt : j < on
          · obtain ⟨x, hxi⟩ : ∃ x, ops[j]? = some x := ⟨_, List.getElem?_eq_getElem (by rw [← HO.out.1]; exact hlt)⟩
            obtain ⟨go, gO, hoa, hcx⟩ := HO.out.2.2 j x hxi
            subst hoa
            obtain ⟨n, hnl⟩ : ∃ n, n = l.length := ⟨_, rfl⟩
            have hnb : 1 ≤ n ∧ n ≤ 31 := by have := HL.out; omega
            have HNL := Lib.hid hnl
            obtain ⟨va, vc, hcv, hvc1, hvc2, hvals⟩ := HX.out.vals
            rw [← hnl] at hcv hvc1
            have HV := Lib.hid hvals
            have hmy : Mods None W wy := by obtain ⟨_, _, _, h⟩ := HX.out; exact h.mods
            have HCX := Lib.hid (hmy.cellOf hcx (fun f => f))
            have HCV := Lib.hid hcv
            have HMY := Lib.hid hmy
            have hpi : (j : Int) < (on : Int) := by omega
            have hvlen : vals.length = n := by rw [hnl]; exact HLN.out.1.len.symm
            have HVL := Lib.hid hvlen
            have HXI := Lib.hid hxi
            have HCX0 := Lib.hid hcx
            clear hxi hcx hvals hnl hmy hlt hvlen
            go_upto_if 71 with (fail)
            go_cut [12, 13] (fun av bv w => ∃ a b : Nat, a < n ∧ b < n ∧ av = .int .i64 (a : Int) ∧ bv = .int .i64 (b : Int) ∧ AdX W fb vb l vals w)
            case first =>
              by_cases hz : 0 < hn
              · have hpz : (hn : Int) > 0 := by omega
                obtain ⟨k1, hk1⟩ : ∃ k1 : Nat, k1 = (2 * j) % hn := ⟨_, rfl⟩
                obtain ⟨k2, hk2⟩ : ∃ k2 : Nat, k2 = (2 * j + 1) % hn := ⟨_, rfl⟩
                have hk1l : k1 < hn := by rw [hk1]; exact Nat.mod_lt _ hz
                have hk2l : k2 < hn := by rw [hk2]; exact Nat.mod_lt _ hz
                have hz0 : ¬ hn = 0 := by omega
                have hw1 : IntKind.i64.wrap (2 * (j : Int)) = ((2 * j : Nat) : Int) := by rw [IntKind.wrap_i64]; omega
                have e1 : (IntKind.i64.wrap (2 * (j : Int))).tmod (hn : Int) = (k1 : Int) := by rw [hw1, hk1]; exact (Int.ofNat_tmod _ _).symm
                have hw2 : IntKind.i64.wrap (IntKind.i64.wrap (2 * (j : Int)) + 1) = ((2 * j + 1 : Nat) : Int) := by rw [hw1, IntKind.wrap_i64]; omega
                have e2 : (IntKind.i64.wrap (IntKind.i64.wrap (2 * (j : Int)) + 1)).tmod (hn : Int) = (k2 : Int) := by rw [hw2, hk2]; exact (Int.ofNat_tmod _ _).symm
                obtain ⟨y1, hy1⟩ : ∃ y, which[k1]? = some y := ⟨_, List.getElem?_eq_getElem (by rw [← HW.out.1]; exact hk1l)⟩
                obtain ⟨y2, hy2⟩ : ∃ y, which[k2]? = some y := ⟨_, List.getElem?_eq_getElem (by rw [← HW.out.1]; exact hk2l)⟩
                obtain ⟨gw, gO2, hha, hd1⟩ := HW.out.2.2 k1 y1 hy1
                obtain ⟨gw', gO', hha', hd2⟩ := HW.out.2.2 k2 y2 hy2
                rw [hha'] at hha
                obtain ⟨rfl, rfl⟩ : gw' = gw ∧ gO' = gO2 := by simpa using hha
                subst hha'
                have hd1 := HMY.out.cellOf hd1 (fun f => f)
                have hd2 := HMY.out.cellOf hd2 (fun f => f)
                have hk1i : (k1 : Int) < (hn : Int) := by omega
                have hk2i : (k2 : Int) < (hn : Int) := by omega
                have hn1' : 1 ≤ (n : Int) := by omega
                have hn2' : (n : Int) ≤ 4611686018427387904 := by omega
                obtain ⟨p1, hp1, HP1⟩ := pick_quiet y1 n wy hnb.1 (by omega)
                obtain ⟨p2, hp2, HP2⟩ := pick_quiet y2 n wy hnb.1 (by omega)
                clear hk1 hk2 hw1 hw2 hy1 hy2 hha hz
                go_wp2_with fail
                go_quiet ((go_at_call 17; first | exact HP1.out _ | exact HP2.out _))
                go_wp2_with fail
                go_meet
                case rel => exact ⟨p1, p2, hp1, hp2, rfl, rfl, HX.out.drewN _⟩
              · have hpz : ¬ (hn : Int) > 0 := by omega
                go_wp2_with fail
                go_meet
                case rel => exact ⟨n - 1, 0, by omega, by omega, by congr 1; omega, rfl, HX.out⟩
            case rest =>
            obtain ⟨w4, rfl⟩ : ∃ w4 : World, w4 = wc := ⟨_, rfl⟩
            obtain ⟨a, b, ha, hb, rfl, rfl, hx4⟩ := hcut
            have HX4 := Lib.hid hx4
            clear hx4 HX hcv hvc1 hvc2
            obtain ⟨d, hd, HPK⟩ := pick_quiet x 12 w4 (by omega) (by omega)
            have hmr := mark_run d hd
            have hcm := copy_mark hd
            have HD := Lib.hid hd
            obtain ⟨va, vc, hcv, hvc1, hvc2, hvals⟩ := HX4.out.vals
            rw [← HNL.out] at hcv hvc1
            obtain ⟨ya, hya⟩ : ∃ y, vals[a]? = some y := ⟨_, List.getElem?_eq_getElem (by rw [HVL.out]; exact ha)⟩
            obtain ⟨yb, hyb⟩ : ∃ y, vals[b]? = some y := ⟨_, List.getElem?_eq_getElem (by rw [HVL.out]; exact hb)⟩
            obtain ⟨gv, hva, hca⟩ := hvals a ya hya
            obtain ⟨gv', hva', hcb⟩ := hvals b yb hyb
            rw [hva'] at hva
            obtain rfl : gv' = gv := by simpa using hva
            subst hva'
            have hm4 : Mods None W w4 := by obtain ⟨_, _, _, h⟩ := HX4.out; exact h.mods
            have hcx := hm4.cellOf HCX0.out (fun f => f)
            have hai : (a : Int) < (n : Int) := by omega
            have hbi : (b : Int) < (n : Int) := by omega
            have HY := Lib.hid (And.intro hya hyb)
            clear hya hyb hvals hm4 hva hd
            go_upto_region 21 with (go_at_call 17; refine (HPK.out 0).mono ?_; rintro e w5 ⟨rfl, m5, rfl⟩)
            have HX5 := Lib.hid (HX4.out.drewN m5)
            obtain ⟨w5, hw5⟩ : ∃ w5, w5 = w4.drewN m5 := ⟨_, rfl⟩
            have hcv : w5.cell? ⟨vb, 0, none⟩ = some (.slice (some ⟨gv', 0, none⟩) n vc) := by rw [hw5]; exact hcv
            have hca : w5.cell? ⟨gv', a, none⟩ = some (.int .i64 ya) := by rw [hw5]; exact hca
            have hcb : w5.cell? ⟨gv', b, none⟩ = some (.int .i64 yb) := by rw [hw5]; exact hcb
            rw [← hw5] at HX5 ⊢
            clear hw5 hmr hcx HPK
            have hlb : l.length ≤ 1000 := by rw [← HNL.out]; omega
            have HLB := Lib.hid hlb
            have ny : N64 ya ∧ N64 yb := ⟨HLN.out.1.n64 ya (List.mem_of_getElem? HY.out.1), HLN.out.1.n64 yb (List.mem_of_getElem? HY.out.2)⟩
            have HNY := Lib.hid ny
            have n0 : N64 0 := by unfold N64; omega
            have HN0 := Lib.hid n0
            clear hlb ny n0
            have hend : ∀ (x : Stp) (v : Int) (w : World), N64 v → StpOk x → x.args = [] → ((x.code = 1 ∧ x.n = v) ∨ (∃ a : Nat, x.code = 2 ∧ x.a = (a : Int) ∧ vals[a]? = some v) ∨ (∃ (a b : Nat) (y z : Int), x.code = 3 ∧ x.op ∈ opList ∧ x.a = (a : Int) ∧ x.b = (b : Int) ∧ vals[a]? = some y ∧ vals[b]? = some z ∧ bothP x.op y z = (v, 0))) → AdX W fb vb (l ++ [{ x with dst := (l.length : Int) }]) (vals ++ [v]) w → ∃ (j' : Nat) (l' : List Stp) (vals' : List Int), j' ≤ on ∧ Value.int .i64 ((j : Int) + 1) = .int .i64 (j' : Int) ∧ Hid (1 ≤ l'.length ∧ l'.length ≤ 11 + j') ∧ Hid (LinK l' vals') ∧ Hid (AdX W fb vb l' vals' w) := fun x v w h1 h2 h3 h4 h5 =>
              ⟨j + 1, _, _, by omega, by go_num, Lib.hid (by rw [List.length_append, List.length_singleton]; have := HL.out; omega), Lib.hid (HLN.out.snoc HLB.out h2 h1 h3 h4), Lib.hid h5⟩
            have HEND := Lib.hid hend
            clear hend
            by_cases hd11 : d = 11
            · rw [hd11] at hcm
              have hcm : ((⟨(mark12 11).toArray⟩ : ByteArray) == ⟨#[99, 111, 112, 121]⟩) = true := hcm
              obtain ⟨tv, sv, vv, hst⟩ := HX5.out
              have HAD := Lib.hid (add_any hst ⟨2, 0, (a : Int), 0, 0, 0, [], 0, [], []⟩ rfl ya HLB.out)
              subst hd11
              clear hst hcb
              unfold stpL str at HAD
              go_wp2_with fail
              go_at_call 16
              refine HAD.out.mono ?_
              rintro e w6 ⟨tv', sv', vv', rfl, hst3⟩
              have HS3 := Lib.hid hst3
              clear hst3
              go_wp2_with fail
              exact ⟨HEND.out ⟨2, 0, (a : Int), 0, 0, 0, [], 0, [], []⟩ ya _ HNY.out.1 (ok_copy (by omega)) rfl (Or.inr (Or.inl ⟨a, rfl, rfl, HY.out.1⟩)) ⟨tv', sv', vv', HS3.out⟩, by simp [intOf]; omega⟩
            · have hcm2 : ((⟨(mark12 d).toArray⟩ : ByteArray) == ⟨#[99, 111, 112, 121]⟩) = false := by rw [hcm]; simpa using hd11
              have hop : mark12 d ∈ opList := mark_in (by have := HD.out; omega)
              obtain ⟨op, hope⟩ : ∃ op, op = mark12 d := ⟨_, rfl⟩
              have hne : ¬ mark12 d = [99, 111, 112, 121] := fun e => by rw [e] at hcm2; exact absurd hcm2 (by decide)
              rw [← hope] at hcm2 hop hne ⊢
              have hne2 : (op == [99, 111, 112, 121]) = false := by rw [beq_eq_false_iff_ne]; exact hne
              clear hne hcm2
              obtain ⟨v, way, hvw⟩ : ∃ v way, bothP op ya yb = (v, way) := ⟨_, _, rfl⟩
              have hv64 : N64 v := by have := both_n64 (op := op) HNY.out.1 HNY.out.2; rw [hvw] at this; exact this
              have HOP := Lib.hid (And.intro hop (And.intro hvw hv64))
              have HBO := Lib.hid (fun d : Nat => (mboth_any op ya yb (w5.drewN d)).mono fun (e : Ending) (w : World) ⟨k1, k2⟩ => (⟨k1, d, k2.symm⟩ : e = Ending.returned (pairV (bothP op ya yb)) ∧ ∃ m, w = w5.drewN m))
              rw [hvw] at HBO
              clear hcm hd11 hope hop hvw hv64
              unfold pairV str at HBO
              go_wp2_with fail
              go_quiet ((go_at_call 8; exact HBO.out _))
              by_cases hway : way = 0
              · have hg1 : (way != 0) = false := by rw [hway]; rfl
                have hg2 : (way == 0) = true := by rw [hway]; rfl
                have HWY := Lib.hid hway
                obtain ⟨tv, sv, vv, hst⟩ := HX5.out.drewN nq
                have HAD := Lib.hid (add_any hst ⟨3, 0, (a : Int), (b : Int), 0, 0, op, 0, [], []⟩ rfl v HLB.out)
                clear hst hca hcb hcv hway
                unfold stpL str at HAD
                go_wp2_with fail
                go_at_call 16
                refine HAD.out.mono ?_
                rintro e w6 ⟨tv', sv', vv', rfl, hst3⟩
                have HS3 := Lib.hid hst3
                clear hst3
                go_wp2_with fail
                exact ⟨HEND.out ⟨3, 0, (a : Int), (b : Int), 0, 0, op, 0, [], []⟩ v _ HOP.out.2.2 (ok_two (by omega) (by omega) HOP.out.1) rfl (Or.inr (Or.inr ⟨a, b, ya, yb, rfl, HOP.out.1, rfl, rfl, HY.out.1, HY.out.2, by rw [HOP.out.2.1, HWY.out]⟩)) ⟨tv', sv', vv', HS3.out⟩, by simp [intOf]; omega⟩
              · have hg1 : (way != 0) = true := by rw [bne_iff_ne]; exact hway
                have hg2 : (way == 0) = false := by rw [beq_eq_false_iff_ne]; exact hway
                clear hway hca hcb hcv
                go_wp2_with fail
                exact ⟨⟨j + 1, l, vals, by omega, by go_num, Lib.hid (by have := HL.out; omega), HLN, Lib.hid (HX5.out.drewN nq)⟩, by simp [intOf]; omega⟩
          · obtain rfl : j = on := by omega
            have hpi : ¬ (j : Int) < (j : Int) := by omega
            obtain ⟨n, hnl⟩ : ∃ n, n + 1 = l.length := ⟨l.length - 1, by have := HL.out; omega⟩
            have hn31 : n ≤ 31 := by have := HL.out; omega
            have HNL := Lib.hid hnl
            obtain ⟨tv, sv, vv, hst⟩ := HX.out
            obtain ⟨ta, tc, rfl⟩ := slice_form hst.ty
            obtain ⟨cs, hcs, hrel⟩ := hst.st
            obtain ⟨sa, sc, rfl⟩ := slice_form hcs
            obtain ⟨va, vc, rfl⟩ := slice_form hst.va
            rw [← hnl] at hst hcs
            have HST := Lib.hid hst
            have HCS := Lib.hid (And.intro hcs hrel)
            have b0 := hst.vc.cell (i := 0) rfl
            have b3 := hst.fn.cell (i := 3) rfl
            have z3 := hst.fn.free 3
            have hp1 : IntKind.i64.wrap (((n + 1 : Nat) : Int) - 1) = (n : Int) := by rw [IntKind.wrap_i64]; omega
            have hp2 : ((n + 1 : Nat) : Int) - 1 = (n : Int) := by omega
            clear hst hcs hrel hnl hlt hj
            obtain ⟨i2, hi2, hy0, hy1, hy2⟩ := info_parts stp_info
            have HI2 := Lib.hid (And.intro hi2 (And.intro hy0 (And.intro hy1 hy2)))
            have hnw := Lib.hid (row_new wy [.int .i64 8, .int .i64 0, .int .i64 (n : Int), .int .i64 0, .int .i64 0, .int .i64 0, .string ⟨#[]⟩, .int .i64 0, .string ⟨#[]⟩, .slice none 0 0] 44)
            have hone := Lib.hid (stp_one ⟨8, 0, (n : Int), 0, 0, 0, [], 0, [], []⟩ none 0 0)
            unfold stpL str at hone
            have HMA : Hid (Mods None wy (wy.alloc (.cells #[.int .i64 8, .int .i64 0, .int .i64 (n : Int), .int .i64 0, .int .i64 0, .int .i64 0, .string ⟨#[]⟩, .int .i64 0, .string ⟨#[]⟩, .slice none 0 0] 44))) := Lib.hid ((Mods.refl _ _).alloc _)
            have HSA := Lib.hid (HMA.out.ownsRow HCS.out.1 (fun k hk f => f))
            have HFA := Lib.hid (HST.out.fn.mods HMA.out (fun f => f))
            have HSZ : Hid (W.heap.size ≤ ((wy.alloc (.cells #[.int .i64 8, .int .i64 0, .int .i64 (n : Int), .int .i64 0, .int .i64 0, .int .i64 0, .string ⟨#[]⟩, .int .i64 0, .string ⟨#[]⟩, .slice none 0 0] 44))).heap.size) := Lib.hid (by have h1 := HMA.out.size; have h2 := HST.out.mods.size; omega)
            have b3a : ((wy.alloc (.cells #[.int .i64 8, .int .i64 0, .int .i64 (n : Int), .int .i64 0, .int .i64 0, .int .i64 0, .string ⟨#[]⟩, .int .i64 0, .string ⟨#[]⟩, .slice none 0 0] 44))).cell? ⟨fb, 3, none⟩ = some (.slice sa (n + 1) sc) := HFA.out.cell (i := 3) rfl
            clear hi2 hy0 hy1 hy2
            go_upto_region 28 with (at_builtin; refine wpList_append_own_at _ rfl _ _ 33 rfl W.heap.size 44 i2 _ 10 112 Tryd.underlying33 HI2.out.1 HI2.out.2.1 HI2.out.2.2.1 HI2.out.2.2.2 rfl (by decide) (.slice sa (n + 1) sc) (n + 1) cs rfl HSA.out ⟨wy.heap.size, 0, none⟩ 1 1 [.int .i64 8, .int .i64 0, .int .i64 (n : Int), .int .i64 0, .int .i64 0, .int .i64 0, .string ⟨#[]⟩, .int .i64 0, .string ⟨#[]⟩, .slice none 0 0] rfl rfl hnw.out hone.out (by unfold maxLen; omega) (by omega) HSZ.out ?_; intro v' w11 hown hgrow hnil hloc; have HOW := Lib.hid hown; have HG := Lib.hid (grow1_of hgrow hloc); have HF11 := Lib.hid (HFA.out.mods (grow1_of hgrow hloc).mods (fun e => (HST.out.aps _ e).1 rfl)); have b3 := HF11.out.cell (i := 3) rfl; have z3 := HF11.out.free 3; clear hown hgrow hnil hloc; refine Hid.out ?_)
            refine Lib.hid ?_
            obtain ⟨ra, rc, rfl⟩ := slice_form HOW.out
            go_upto_region 28 with (fail)
            obtain ⟨w12, hw12⟩ : ∃ w12, w12 = w11.setCell ⟨fb, 3, none⟩ (.slice ra (n + 1 + 1) rc) := ⟨_, rfl⟩
            have hs12 : Mods (· = fb) w11 w12 := by rw [hw12]; exact mods_set _ _ _ _
            have hf12 : Blk w12 fb [mainV, .int .i64 0, .slice ta (n + 1) tc, .slice ra (n + 1 + 1) rc] 35 := by rw [hw12]; exact HF11.out.set 3 _
            rw [← hw12]
            clear hw12
            have hm12 : Mods (fun k => k = fb ∨ (Value.slice sa (n + 1) sc).ownBlock = some k) wy w12 := ((HMA.out.mono fun _ _ f => f.elim).trans (HG.out.mods.mono fun k _ e => Or.inr e)).trans (hs12.mono fun k _ e => Or.inl e)
            have hW12 : Mods None W w12 := HST.out.mods.trans' hm12 (fun k e hk => by
              rcases e with e | e
              · have := HST.out.lo; omega
              · have := (HCS.out.1.lt k e).1; omega)
            have hst12 : StpsAt w12 None (.slice ra (n + 1 + 1) rc) (l ++ [⟨8, 0, (n : Int), 0, 0, 0, [], 0, [], []⟩]) := by
              refine stps_of_row (B := W.heap.size) (hs12.ownsRow HOW.out (fun k hk e => ?_)) (HCS.out.2.grow (by rw [HCS.out.1.1, HNL.out]) ⟨8, 0, (n : Int), 0, 0, 0, [], 0, [], []⟩) (by rw [List.length_append, List.length_singleton, HNL.out]) (fun s hs => ?_)
              · rcases HG.out.own k hk with e2 | e2
                · exact (HST.out.aps k e2).1 e
                · have h1 := HST.out.fn.lt
                  have h2 := HMA.out.size
                  have e : k = fb := e
                  omega
              · rcases List.mem_append.1 hs with hs | hs
                · exact HST.out.args s hs
                · rw [List.mem_singleton] at hs; rw [hs]
            have hty12 : IntsAt w12 None (.slice ta (n + 1) tc) (List.replicate (n + 1) 1) := by
              refine ints_of_row (B := W.heap.size) ?_ (fun _ _ f => f)
              rw [List.length_replicate, List.map_replicate]
              have h := hm12.ownsRow HST.out.ty (fun k hk e => by
                rcases e with e | e
                · exact (HST.out.apt k hk).1 e
                · exact (HST.out.apt k hk).2.2.1 e)
              rw [← HNL.out] at h
              exact h
            have hvals12 := hm12.ownsRow HST.out.va (fun k hk e => by
              rcases e with e | e
              · exact (HST.out.apv k hk).1 e
              · exact (HST.out.aps k e).2.2 hk)
            have hvc12 := HST.out.vc.mods hm12 (fun e => by
              rcases e with e | e
              · exact HST.out.ne e.symm
              · exact (HST.out.aps vb e).2.1 rfl)
            obtain ⟨v, hv⟩ : ∃ v, vals[n]? = some v := ⟨_, List.getElem?_eq_getElem (by rw [← HLN.out.1.len, ← HNL.out]; omega)⟩
            have hvlen : vals.length = n + 1 := by rw [← HLN.out.1.len, HNL.out]
            obtain ⟨F, hF⟩ : ∃ F : Fm, F = ⟨[109, 97, 105, 110], 0, List.replicate (n + 1) 1, l ++ [⟨8, 0, (n : Int), 0, 0, 0, [], 0, [], []⟩]⟩ := ⟨_, rfl⟩
            have hgood : Good [F] := by rw [hF]; exact lin_good HLN.out.1 rfl (by show N64 0; unfold N64; omega) hvlen rfl (by omega)
            have htold : Told (foldF F) n v := lin_fold HLN.out.1 (by rw [hF]) rfl hvlen rfl hv
            have hfmok : FmOk F := by
              refine ⟨by rw [hF]; show 4 ≤ maxLen; unfold maxLen; omega, by rw [hF]; exact z64, fun x hx => ?_, fun s hs => ?_⟩
              · rw [hF] at hx
                rw [List.eq_of_mem_replicate hx]; unfold I64; omega
              · rw [hF] at hs
                rcases List.mem_append.1 hs with hs | hs
                · exact HLN.out.2 s hs
                · rw [List.mem_singleton] at hs
                  rw [hs]
                  exact ok_ret (by omega)
            have hargs : ∀ s ∈ F.steps, s.args.length ≤ 1000000 := fun s hs => by
              rw [hF] at hs
              rcases List.mem_append.1 hs with hs | hs
              · rw [HST.out.args s hs]; exact Nat.zero_le _
              · rw [List.mem_singleton] at hs
                rw [hs]
                exact Nat.zero_le _
            have hfit : Fit F := ⟨hfmok, ⟨_, hgood, by simp⟩, hargs⟩
            obtain ⟨w13, hw13⟩ : ∃ w13, w13 = w12.alloc (.cells #[.string ⟨#[109, 97, 105, 110]⟩, .int .i64 0, .slice ta (n + 1) tc, .slice ra (n + 1 + 1) rc] 35) := ⟨_, rfl⟩
            obtain ⟨w14, hw14⟩ : ∃ w14, w14 = w13.alloc (.cells #[.slice (some ⟨w12.heap.size, 0, none⟩) 1 1] 53) := ⟨_, rfl⟩
            have hs13 : w13.heap.size = w12.heap.size + 1 := by rw [hw13]; simp
            have hm13 : Mods None w12 w13 := by rw [hw13]; exact (Mods.refl _ _).alloc _
            have hm14 : Mods None w13 w14 := by rw [hw14]; exact (Mods.refl _ _).alloc _
            have hm1214 := hm13.trans hm14
            have hb13 : Blk w14 w12.heap.size [.string ⟨#[109, 97, 105, 110]⟩, .int .i64 0, .slice ta (n + 1) tc, .slice ra (n + 1 + 1) rc] 35 := by
              have : Blk w13 w12.heap.size [.string ⟨#[109, 97, 105, 110]⟩, .int .i64 0, .slice ta (n + 1) tc, .slice ra (n + 1 + 1) rc] 35 := by rw [hw13]; exact Blk.new w12 _ _
              exact this.mods hm14 (fun f => f)
            have hb14 : Blk w14 (w12.heap.size + 1) [.slice (some ⟨w12.heap.size, 0, none⟩) 1 1] 53 := by
              rw [← hs13, hw14]; exact Blk.new w13 _ _
            have hFm : FmsAt w14 None (.slice (some ⟨w12.heap.size, 0, none⟩) 1 1) [F] := by
              refine fms_one (tv := .slice ta (n + 1) tc) (sv := .slice ra (n + 1 + 1) rc) (by rw [hF]; exact hb13) ?_ ?_
              · rw [hF]; exact hty12.mods (hm1214.mono fun _ _ f => f.elim) (fun _ _ f => f)
              · rw [hF]; exact hst12.mods (hm1214.mono fun _ _ f => f.elim) (fun _ _ f => f)
            have hW14 := hW12.trans hm1214
            have HFO := Lib.hid (fold_any [F] (w12.heap.size + 1) _ w14 (hb14.cell (i := 0) rfl) hFm (fun f hf => by rw [List.mem_singleton] at hf; rw [hf]; exact hfmok) (fun f hf => by rw [List.mem_singleton] at hf; rw [hf]; exact hargs) (HT.out.1.mods hW14) (HT.out.2.mods hW14) true hgood.right.symm)
            have hvc14 := (hvc12.mods hm1214 (fun f => f)).cell (i := 0) rfl
            have hvl14 : ∃ gv, va = some ⟨gv, 0, none⟩ ∧ w14.cell? ⟨gv, n, none⟩ = some (.int .i64 v) := by
              obtain ⟨a', c', e, -, -, h3⟩ := ownsRow_slice (hm1214.ownsRow hvals12 (fun _ _ f => f))
              obtain ⟨rfl, -, -⟩ := Value.slice.inj e
              obtain ⟨g, e1, -, e3⟩ := h3 n (.int .i64 v) (by rw [List.getElem?_map, hv]; rfl)
              exact ⟨g, e1, e3⟩
            obtain ⟨gv, rfl, hcv14⟩ := hvl14
            have f0 := hf12.cell (i := 0) rfl
            have f1 := hf12.cell (i := 1) rfl
            have f2 := hf12.cell (i := 2) rfl
            have f3 := hf12.cell (i := 3) rfl
            have HXX := Lib.hid (And.intro hgood (And.intro htold (And.intro hfit (And.intro hW14 hF))))
            have e14 : (w12.alloc (.cells #[.string ⟨#[109, 97, 105, 110]⟩, .int .i64 0, .slice ta (n + 1) tc, .slice ra (n + 1 + 1) rc] 35)).alloc (.cells #[.slice (some ⟨w12.heap.size, 0, none⟩) 1 1] 53) = w14 := by rw [hw14, hw13]
            have HE14 := Lib.hid e14
            have HC14 := Lib.hid (And.intro hvc14 hcv14)
            clear e14 hw13 hw14 hs13 hm13 hm14 hm1214 hb13 hb14 hFm hW14 hvc14 hcv14 hgood htold hfit hfmok hargs hF hv hvlen hvals12 hvc12 hst12 hty12 hW12 hm12 hf12 hs12 b3 z3
            unfold mainV at f0
            go_wp2_with (go_at_call 18; rw [HE14.out]; refine HFO.out.mono ?_; rintro e w15 ⟨-, hfd⟩; obtain ⟨db, dv, rfl, hd, hdf, hm5, -⟩ := hfd rfl)
            have hDG : Good [foldF F] := fold_keeps.good _ HXX.out.1
            have hW15 := HXX.out.2.2.2.1.trans hm5
            have hdf : FmsAt w15 None dv [foldF F] := hdf
            have hoks : ∀ f ∈ [foldF F], FmOk f := fun f hf => by rw [List.mem_singleton] at hf; rw [hf]; exact (fit_fold HXX.out.2.2.1).ok
            have hsn : stepsN [foldF F] = 2 := by rw [stepsN, told_steps HXX.out.2.1]; rfl
            have hst := fun w (hm : Mods None w15 w) => steps_any [foldF F] db dv w (hm.cellOf hd (fun f => f)) (hdf.mods hm (fun _ _ k => k)) (by rw [hsn]; omega)
            rw [hsn] at hst
            have hrun := fun w (hm : Mods None w15 w) => mrun_any hoks 4 [] 10 (1, v, []) (told_ends hDG (by rw [fold_keeps.pass.name, HXX.out.2.2.2.2]) (by rw [fold_keeps.pass.types, HXX.out.2.2.2.2]; simp) HXX.out.2.1 8) db dv (.slice none 0 0) w (hm.cellOf hd (fun f => f)) (hdf.mods hm (fun _ _ k => k)) ((HT.out.1.mods hW15).mods hm) ((HT.out.2.mods hW15).mods hm) ⟨none, 0, 0, rfl, rfl, Nat.le_refl _, Nat.zero_le _, fun i x hx => by simp at hx⟩ (fun n c h => by cases h; rfl) (Nat.zero_le _) (by omega) (by omega)
            have HSTP := Lib.hid hst
            have HRN := Lib.hid hrun
            have c15 := hm5.cellOf HC14.out.1 (fun f => f)
            have d15 := hm5.cellOf HC14.out.2 (fun f => f)
            have hnn : (n : Int) < (n : Int) + 1 := by omega
            have HW15 := Lib.hid hW15
            clear hfd hd hdf hm5 hDG hoks hsn hst hrun HFO hW15 f0 f1 f2 f3 b0
            go_region_held3 (fun w' => Hid (Mods None w15 w') ∧ w'.cell? ⟨vb, 0, none⟩ = some (.slice (some ⟨gv, 0, none⟩) (n + 1) vc) ∧ w'.cell? ⟨gv, n, none⟩ = some (.int .i64 v))
              (first
                | exact ⟨Lib.hid (Mods.refl _ _).drew, c15, d15⟩
                | assumption
                | (go_split_ands; exact ⟨Lib.hid (Mods.trans (Hid.out ‹_›) hm), hm.cellOf ‹_› (fun f => f), hm.cellOf ‹_› (fun f => f)⟩))
              ((first
                | (go_at_call 11; go_split_ands; refine (HSTP.out _ (Hid.out ‹Hid (Mods None w15 _)›)).mono ?_; rintro e w' ⟨rfl, hm⟩)
                | (go_at_call 13; go_split_ands; refine (HRN.out _ (Hid.out ‹Hid (Mods None w15 _)›)).mono ?_; rintro e w' ⟨u, rfl, hu, hm⟩)
                | (go_at_call 19; go_split_ands; refine (same_end (1, v, []) _ _ _ hu (end_one v _)).mono ?_; rintro e w' ⟨rfl, hm⟩)))
            all_goals
              go_split_ands
              have HM16 := Lib.hid (HW15.out.trans (Hid.out (‹Hid (Mods None w15 w')› : Hid (Mods None w15 w'))))
              go_wp2_with fail
              go_ret
              exact ⟨rfl, by first | exact HM16.out | exact HM16.out.drew⟩
  · have hbig2 : (10 : Int) < (nn : Int) ∨ (20 : Int) < (on : Int) ∨ (40 : Int) < (hn : Int) := by omega
    clear hFo hOp hn1 hn5 hn6 ho1 ho5 ho6 hw1 hw5 hw6 hn4 ho4 hw4 hbig
    go_enter Tryd.func4, Tryd.ntmps4
    by_cases h1 : (10 : Int) < (nn : Int)
    · go_wp2_with fail
      go_ret
      exact ⟨rfl, by first | exact Mods.refl _ _ | exact (Mods.refl _ _).drew⟩
    · by_cases h2 : (20 : Int) < (on : Int)
      · go_wp2_with fail
        go_ret
        exact ⟨rfl, by first | exact Mods.refl _ _ | exact (Mods.refl _ _).drew⟩
      · have h3 : (40 : Int) < (hn : Int) := by omega
        clear hbig2
        go_wp2_with fail
        go_ret
        exact ⟨rfl, by first | exact Mods.refl _ _ | exact (Mods.refl _ _).drew⟩
end Go.Proofs.YtoajcbfejplfbaaDoor.MidP

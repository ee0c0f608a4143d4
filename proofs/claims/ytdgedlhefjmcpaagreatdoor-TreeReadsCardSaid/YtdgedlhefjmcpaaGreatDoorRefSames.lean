/- Two lists of statements that are read of one text are the same to the law. No conditions beyond the memory's. -/
import Derived.Test.YtdgedlhefjmcpaaGreatDoorRefSame
import Derived.Test.YtdgedlhefjmcpaaGreatDoorTreePr
namespace Go.Proofs.YtdgedlhefjmcpaaGreatDoor.TreeP.R
open Go.RowKit Go.Proofs.YtdgedlhefjmcpaaGreatDoor.Wo Go.Proofs.YtdgedlhefjmcpaaGreatDoor.TreeP
set_option linter.unusedVariables false
set_option linter.unusedSimpArgs false
theorem same_node {W : World} {g g' : Nat} {c a n : Int} {s op : List UInt8} {x x' y y' : Option Addr} {p p' : Value} {k : Nat} {vs vs' : List Value}
    (hb : Blk W g (cells8 c a n s op (.pointer x) (.pointer y) p) 195) (hb' : Blk W g' (cells8 c a n s op (.pointer x') (.pointer y') p') 195)
    (hr : W.ownsRow 0 141 1 p k vs) (hr' : W.ownsRow 0 141 1 p' k vs')
    (hx : ∀ w, Mods None W w → SameIs (.pointer x) (.pointer x') w) (hy : ∀ w, Mods None W w → SameIs (.pointer y) (.pointer y') w)
    (ha : ∀ i, i < k → ∃ u u', vs[i]? = some u ∧ vs'[i]? = some u' ∧ (∃ o, u = .pointer o) ∧ (∃ o, u' = .pointer o) ∧ ∀ w, Mods None W w → SameIs u u' w) :
    SameIs (.pointer (some ⟨g, 0, none⟩)) (.pointer (some ⟨g', 0, none⟩)) W := by
  by_cases hk : k = 0
  · exact same_node0 hb hb' hr hr' hk hx hy ha
  · exact same_node1 hb hb' hr hr' hk hx hy ha
def SameC (e : Ex) : Prop := ∀ (v v' : Value) (W : World), ExAt W None e v → ExAt W None e v' → SameIs v v' W
theorem nil_row (W : World) (e : TypeId) (size : Nat) : W.ownsRow 0 e size nilS 0 [] := World.ownsRow_nil _ _ _ _
theorem same_nils (W : World) : ∀ w, Mods None W w → SameIs (.pointer none) (.pointer none) w := fun w _ => same_nil w
theorem no_args {W : World} : ∀ i, i < 0 → ∃ u u', ([] : List Value)[i]? = some u ∧ ([] : List Value)[i]? = some u' ∧ (∃ o, u = .pointer o) ∧ (∃ o, u' = .pointer o) ∧ ∀ w, Mods None W w → SameIs u u' w := fun i h => absurd h (Nat.not_lt_zero i)
theorem same_two {W : World} {g g' : Nat} {c a n : Int} {s op : List UInt8} {x y x' y' : Value} {l r : Ex} (hl : SameC l) (hr : SameC r)
    (hb : Blk W g (cells8 c a n s op x y nilS) 195) (hb' : Blk W g' (cells8 c a n s op x' y' nilS) 195)
    (h1 : ExAt W None l x) (h2 : ExAt W None r y) (h1' : ExAt W None l x') (h2' : ExAt W None r y') : SameIs (.pointer (some ⟨g, 0, none⟩)) (.pointer (some ⟨g', 0, none⟩)) W := by
  obtain ⟨_, rfl⟩ := h1.ptr
  obtain ⟨_, rfl⟩ := h2.ptr
  obtain ⟨_, rfl⟩ := h1'.ptr
  obtain ⟨_, rfl⟩ := h2'.ptr
  exact same_node hb hb' (nil_row _ _ _) (nil_row _ _ _) (fun w hm => hl _ _ w (h1.mods hm) (h1'.mods hm)) (fun w hm => hr _ _ w (h2.mods hm) (h2'.mods hm)) no_args
theorem same_one {W : World} {g g' : Nat} {c a n : Int} {s op : List UInt8} {x x' : Value} {l : Ex} (hl : SameC l)
    (hb : Blk W g (cells8 c a n s op x nilP nilS) 195) (hb' : Blk W g' (cells8 c a n s op x' nilP nilS) 195)
    (h1 : ExAt W None l x) (h1' : ExAt W None l x') : SameIs (.pointer (some ⟨g, 0, none⟩)) (.pointer (some ⟨g', 0, none⟩)) W := by
  obtain ⟨_, rfl⟩ := h1.ptr
  obtain ⟨_, rfl⟩ := h1'.ptr
  exact same_node hb hb' (nil_row _ _ _) (nil_row _ _ _) (fun w hm => hl _ _ w (h1.mods hm) (h1'.mods hm)) (same_nils W) no_args
theorem same_none {W : World} {g g' : Nat} {c a n : Int} {s op : List UInt8}
    (hb : Blk W g (cells8 c a n s op nilP nilP nilS) 195) (hb' : Blk W g' (cells8 c a n s op nilP nilP nilS) 195) : SameIs (.pointer (some ⟨g, 0, none⟩)) (.pointer (some ⟨g', 0, none⟩)) W :=
  same_node hb hb' (nil_row _ _ _) (nil_row _ _ _) (same_nils W) (same_nils W) no_args
theorem same_call (a : Int) (f : List UInt8) {args : List Ex} (hA : ∀ e ∈ args, SameC e) : SameC (.call a f args) := by
  intro v v' W h h'
  simp only [ExAt] at h h'
  obtain ⟨p, vs, ⟨g, rfl, _, hb⟩, hrow, hex⟩ := h
  obtain ⟨p', vs', ⟨g', rfl, _, hb'⟩, hrow', hex'⟩ := h'
  refine same_node hb hb' hrow.1 hrow'.1 (same_nils W) (same_nils W) (fun i hi => ?_)
  have he := List.getElem?_eq_getElem hi
  obtain ⟨u, hu, hue⟩ := hex.at_ i _ he
  obtain ⟨u', hu', hue'⟩ := hex'.at_ i _ he
  obtain ⟨_, rfl⟩ := hue.ptr
  obtain ⟨_, rfl⟩ := hue'.ptr
  exact ⟨_, _, hu, hu', ⟨_, rfl⟩, ⟨_, rfl⟩, fun w hm => hA _ (List.getElem_mem hi) _ _ w (hue.mods hm) (hue'.mods hm)⟩
mutual
theorem same_any : (e : Ex) → SameC e
  | .num a n => fun v v' W h h' => by
    simp only [ExAt] at h h'
    obtain ⟨g, rfl, _, hb⟩ := h
    obtain ⟨g', rfl, _, hb'⟩ := h'
    exact same_none hb hb'
  | .var a s => fun v v' W h h' => by
    simp only [ExAt] at h h'
    obtain ⟨g, rfl, _, hb⟩ := h
    obtain ⟨g', rfl, _, hb'⟩ := h'
    exact same_none hb hb'
  | .input a => fun v v' W h h' => by
    simp only [ExAt] at h h'
    obtain ⟨g, rfl, _, hb⟩ := h
    obtain ⟨g', rfl, _, hb'⟩ := h'
    exact same_none hb hb'
  | .bin a op l r => fun v v' W h h' => by
    simp only [ExAt] at h h'
    obtain ⟨x, y, ⟨g, rfl, _, hb⟩, h1, h2⟩ := h
    obtain ⟨x', y', ⟨g', rfl, _, hb'⟩, h1', h2'⟩ := h'
    exact same_two (same_any l) (same_any r) hb hb' h1 h2 h1' h2'
  | .item a l r => fun v v' W h h' => by
    simp only [ExAt] at h h'
    obtain ⟨x, y, ⟨g, rfl, _, hb⟩, h1, h2⟩ := h
    obtain ⟨x', y', ⟨g', rfl, _, hb'⟩, h1', h2'⟩ := h'
    exact same_two (same_any l) (same_any r) hb hb' h1 h2 h1' h2'
  | .un a op l => fun v v' W h h' => by
    simp only [ExAt] at h h'
    obtain ⟨x, ⟨g, rfl, _, hb⟩, h1⟩ := h
    obtain ⟨x', ⟨g', rfl, _, hb'⟩, h1'⟩ := h'
    exact same_one (same_any l) hb hb' h1 h1'
  | .new a l => fun v v' W h h' => by
    simp only [ExAt] at h h'
    obtain ⟨x, ⟨g, rfl, _, hb⟩, h1⟩ := h
    obtain ⟨x', ⟨g', rfl, _, hb'⟩, h1'⟩ := h'
    exact same_one (same_any l) hb hb' h1 h1'
  | .len a l => fun v v' W h h' => by
    simp only [ExAt] at h h'
    obtain ⟨x, ⟨g, rfl, _, hb⟩, h1⟩ := h
    obtain ⟨x', ⟨g', rfl, _, hb'⟩, h1'⟩ := h'
    exact same_one (same_any l) hb hb' h1 h1'
  | .call a f args => same_call a f (sames_args args)
theorem sames_args : (l : List Ex) → ∀ e ∈ l, SameC e
  | [], e, h => nomatch h
  | a :: r, e, h => by
    rcases List.mem_cons.1 h with he | h
    · rw [he]; exact same_any a
    · exact sames_args r e h
end
/-! Statements. -/
def SamesIs (u v : Value) (w : World) : Prop := Calls Tryz.prog 49 #[u, v] w fun e w' => e = .returned (.bool true) ∧ Mods None w w'
def SameS (l : List St) : Prop := ∀ (v v' : Value) (W : World), StsIs None l v W → StsIs None l v' W → SamesIs v v' W
/-- Two statements' cells, side by side. -/
def Pair (W : World) (cs cs' : List Value) : Prop :=
  ∃ (code a : Int) (name : ByteArray) (p q p' q' : Option Addr) (oa : Option Addr) (on oc : Nat) (ob : Option Addr) (om od : Nat) (oa' : Option Addr) (on' oc' : Nat) (ob' : Option Addr) (om' od' : Nat),
    cs = [.int .i64 code, .int .i64 a, .string name, .pointer p, .pointer q, .slice oa on oc, .slice ob om od] ∧ cs' = [.int .i64 code, .int .i64 a, .string name, .pointer p', .pointer q', .slice oa' on' oc', .slice ob' om' od'] ∧
    (∀ w, Mods None W w → SameIs (.pointer p) (.pointer p') w) ∧ (∀ w, Mods None W w → SameIs (.pointer q) (.pointer q') w) ∧
    (∀ w, Mods None W w → SamesIs (.slice oa on oc) (.slice oa' on' oc') w) ∧ (∀ w, Mods None W w → SamesIs (.slice ob om od) (.slice ob' om' od') w)
def SameSt (s : St) : Prop := ∀ (W : World) (cs cs' : List Value), StAt W None s cs → StAt W None s cs' → Pair W cs cs'
theorem StsIs.mods {l : List St} {v : Value} {W W' : World} (h : StsIs None l v W) (hm : Mods None W W') : StsIs None l v W' := by
  obtain ⟨vs, h1, h2⟩ := h
  exact ⟨vs, h1.mods hm (fun _ _ f => f), StsAt.modsTo hm (fun _ _ f => f) _ _ h2⟩
theorem sts_nil (W : World) : StsIs None [] nilS W := ⟨[], ⟨World.ownsRow_nil _ _ _ _, fun _ h => by cases h⟩, by simp only [StsAt]⟩
theorem pair_of {W : World} {code a : Int} {name : List UInt8} {x y x' y' t e t' e' : Value} {lt le : List St} (hx : ∃ p p', x = .pointer p ∧ x' = .pointer p' ∧ ∀ w, Mods None W w → SameIs (.pointer p) (.pointer p') w)
    (hy : ∃ p p', y = .pointer p ∧ y' = .pointer p' ∧ ∀ w, Mods None W w → SameIs (.pointer p) (.pointer p') w)
    (hlt : SameS lt) (hle : SameS le) (ht : StsIs None lt t W) (ht' : StsIs None lt t' W) (he : StsIs None le e W) (he' : StsIs None le e' W) :
    Pair W (cells7 code a name x y t e) (cells7 code a name x' y' t' e') := by
  obtain ⟨p, p', rfl, rfl, hp⟩ := hx
  obtain ⟨q, q', rfl, rfl, hq⟩ := hy
  obtain ⟨_, _, _, rfl⟩ := ht.choose_spec.1.form
  obtain ⟨_, _, _, rfl⟩ := ht'.choose_spec.1.form
  obtain ⟨_, _, _, rfl⟩ := he.choose_spec.1.form
  obtain ⟨_, _, _, rfl⟩ := he'.choose_spec.1.form
  exact ⟨code, a, ⟨name.toArray⟩, p, q, p', q', _, _, _, _, _, _, _, _, _, _, _, _, rfl, rfl, hp, hq, fun w hm => hlt _ _ w (StsIs.mods ht hm) (StsIs.mods ht' hm), fun w hm => hle _ _ w (StsIs.mods he hm) (StsIs.mods he' hm)⟩
theorem ptr_nil (W : World) : ∃ p p' : Option Addr, nilP = .pointer p ∧ nilP = .pointer p' ∧ ∀ w, Mods None W w → SameIs (.pointer p) (.pointer p') w := ⟨none, none, rfl, rfl, same_nils W⟩
theorem ptr_ex {W : World} {e : Ex} {x x' : Value} (h : ExAt W None e x) (h' : ExAt W None e x') : ∃ p p' : Option Addr, x = .pointer p ∧ x' = .pointer p' ∧ ∀ w, Mods None W w → SameIs (.pointer p) (.pointer p') w := by
  obtain ⟨_, rfl⟩ := h.ptr
  obtain ⟨_, rfl⟩ := h'.ptr
  exact ⟨_, _, rfl, rfl, fun w hm => same_any e _ _ w (h.mods hm) (h'.mods hm)⟩
theorem row_fulls {W : World} {e : TypeId} {n size : Nat} {v : Value} {vs : List Value} (h : W.ownsRow 0 e size v n vs) (hn : n ≠ 0) : ∃ q c, v = .slice (some ⟨q, 0, none⟩) n c ∧ n ≤ c ∧ c ≤ 9223372036854775807 ∧ q < W.heap.size ∧ ∀ (i : Nat) (y : Value), vs[i]? = some y → W.cell? ⟨q, i, none⟩ = some y := by
  rcases h.2 with ⟨hv, h0⟩ | ⟨q, cap, cur, rfl, _, _, h3, h4, _⟩
  · exact absurd h0 hn
  · refine ⟨q, cap, rfl, h3, by unfold maxLen at h4; omega, (h.lt q rfl).2, fun i y hy => ?_⟩
    have := h.cells (g := q) rfl i y hy
    cases i with
    | zero => exact this
    | succ i => simpa [Addr.add] using this
set_option maxRecDepth 100000 in
set_option maxHeartbeats 3200000 in
theorem sames_nil : SameS [] := by
  intro v v' W h h'
  obtain ⟨vs, hr, _⟩ := h
  obtain ⟨vs', hr', _⟩ := h'
  obtain ⟨pa, pc, rfl⟩ := lex_form hr.1
  obtain ⟨qa, qc, rfl⟩ := lex_form hr'.1
  clear hr hr'
  unfold SamesIs
  go_enter Tryz.func49, Tryz.ntmps49
  go_wp2_with fail
  refine wp_loop_rounds 1 ?_
  rw [rounds_succ]
  go_wp2
  go_ret
  exact ⟨rfl, Mods.refl _ _⟩
set_option maxRecDepth 100000 in
set_option maxHeartbeats 6400000 in
theorem sames_of (l : List St) (hl : l ≠ []) (hS : ∀ s ∈ l, SameSt s) : SameS l := by
  intro v v' W h h'
  obtain ⟨vs, hr, hst⟩ := h
  obtain ⟨vs', hr', hst'⟩ := h'
  have hne : l.length ≠ 0 := by intro h; exact hl (List.eq_nil_of_length_eq_zero h)
  obtain ⟨q, pc, rfl, hpc, hpc2, hql, hq⟩ := row_fulls hr.1 hne
  obtain ⟨q', qc, rfl, hqc, hqc2, hql', hq'⟩ := row_fulls hr'.1 hne
  have HP := Lib.hid (fun (i : Nat) (hi : i < l.length) => by
    have he := List.getElem?_eq_getElem hi
    obtain ⟨cs, h1, h2⟩ := hst.at_ i _ he
    obtain ⟨cs', h1', h2'⟩ := hst'.at_ i _ he
    exact (⟨cs, cs', hS _ (List.getElem_mem hi) W cs cs' h1 h1', fun j c hj => hq _ c (h2 j c hj), fun j c hj => hq' _ c (h2' j c hj)⟩ : ∃ cs cs', Pair W cs cs' ∧ (∀ j c, cs[j]? = some c → W.cell? ⟨q, i * 7 + j, none⟩ = some c) ∧ ∀ j c, cs'[j]? = some c → W.cell? ⟨q', i * 7 + j, none⟩ = some c))
  obtain ⟨n, hn⟩ : ∃ n, n = l.length := ⟨_, rfl⟩
  rw [← hn] at HP hpc hqc ⊢
  have HLQ := Lib.hid (⟨hql, hql'⟩ : _ ∧ _)
  clear hr hr' hst hst' hq hq' hS hn hne hl hql hql'
  unfold SamesIs
  go_enter Tryz.func49, Tryz.ntmps49
  go_wp2_with fail
  go_loopw [5] (fun iv wr => ∃ i : Nat, i ≤ n ∧ iv = .int .i64 i ∧ Hid (Mods None W wr)) (fun iv _ => (n - intOf iv).toNat)
  case atStart => exact ⟨0, Nat.zero_le _, rfl, Lib.hid (Mods.refl _ _)⟩
  case round =>
    obtain ⟨i, hi, rfl, HM⟩ := hrel
    by_cases hik : i < n
    · have hlt : (i : Int) < (n : Int) := by omega
      obtain ⟨cs, cs', ⟨code, a, name, p, r, p', r', oa, on, oc, ob, om, od, oa', on', oc', ob', om', od', rfl, rfl, h1, h2, h3, h4⟩, hz, hz'⟩ := HP.out i hik
      have H1 := Lib.hid h1
      have H2 := Lib.hid h2
      have H3 := Lib.hid h3
      have H4 := Lib.hid h4
      unfold SameIs at H1 H2
      unfold SamesIs at H3 H4
      have z0 : wr.cell? ⟨q, i * 7, none⟩ = some (.int .i64 code) := HM.out.cellOf (hz 0 _ rfl) (fun f => f)
      have z1 : wr.cell? ⟨q, i * 7 + 1, none⟩ = some (.int .i64 a) := HM.out.cellOf (hz 1 _ rfl) (fun f => f)
      have z2 : wr.cell? ⟨q, i * 7 + 2, none⟩ = some (.string name) := HM.out.cellOf (hz 2 _ rfl) (fun f => f)
      have z3 : wr.cell? ⟨q, i * 7 + 3, none⟩ = some (.pointer p) := HM.out.cellOf (hz 3 _ rfl) (fun f => f)
      have z4 : wr.cell? ⟨q, i * 7 + 4, none⟩ = some (.pointer r) := HM.out.cellOf (hz 4 _ rfl) (fun f => f)
      have z5 : wr.cell? ⟨q, i * 7 + 5, none⟩ = some (.slice oa on oc) := HM.out.cellOf (hz 5 _ rfl) (fun f => f)
      have z6 : wr.cell? ⟨q, i * 7 + 6, none⟩ = some (.slice ob om od) := HM.out.cellOf (hz 6 _ rfl) (fun f => f)
      have y0 : wr.cell? ⟨q', i * 7, none⟩ = some (.int .i64 code) := HM.out.cellOf (hz' 0 _ rfl) (fun f => f)
      have y1 : wr.cell? ⟨q', i * 7 + 1, none⟩ = some (.int .i64 a) := HM.out.cellOf (hz' 1 _ rfl) (fun f => f)
      have y2 : wr.cell? ⟨q', i * 7 + 2, none⟩ = some (.string name) := HM.out.cellOf (hz' 2 _ rfl) (fun f => f)
      have y3 : wr.cell? ⟨q', i * 7 + 3, none⟩ = some (.pointer p') := HM.out.cellOf (hz' 3 _ rfl) (fun f => f)
      have y4 : wr.cell? ⟨q', i * 7 + 4, none⟩ = some (.pointer r') := HM.out.cellOf (hz' 4 _ rfl) (fun f => f)
      have y5 : wr.cell? ⟨q', i * 7 + 5, none⟩ = some (.slice oa' on' oc') := HM.out.cellOf (hz' 5 _ rfl) (fun f => f)
      have y6 : wr.cell? ⟨q', i * 7 + 6, none⟩ = some (.slice ob' om' od') := HM.out.cellOf (hz' 6 _ rfl) (fun f => f)
      have hql : q < wr.heap.size := Nat.lt_of_lt_of_le HLQ.out.1 HM.out.size
      have hql' : q' < wr.heap.size := Nat.lt_of_lt_of_le HLQ.out.2 HM.out.size
      clear h1 h2 h3 h4 hz hz'
      go_wp2_with fail
      go_region
      · have hm2 : Mods None wr ((wr.alloc (.cells #[.int .i64 code, .int .i64 a, .string name, .pointer p, .pointer r, .slice oa on oc, .slice ob om od] 143)).alloc (.cells #[.int .i64 code, .int .i64 a, .string name, .pointer p', .pointer r', .slice oa' on' oc', .slice ob' om' od'] 143)) := ((Mods.refl _ _).alloc _).alloc _
        have hA := (Blk.new wr #[.int .i64 code, .int .i64 a, .string name, .pointer p, .pointer r, .slice oa on oc, .slice ob om od] 143).alloc (.cells #[.int .i64 code, .int .i64 a, .string name, .pointer p', .pointer r', .slice oa' on' oc', .slice ob' om' od'] 143)
        have hB := Blk.new (wr.alloc (.cells #[.int .i64 code, .int .i64 a, .string name, .pointer p, .pointer r, .slice oa on oc, .slice ob om od] 143)) #[.int .i64 code, .int .i64 a, .string name, .pointer p', .pointer r', .slice oa' on' oc', .slice ob' om' od'] 143
        rw [show (wr.alloc (.cells #[.int .i64 code, .int .i64 a, .string name, .pointer p, .pointer r, .slice oa on oc, .slice ob om od] 143)).heap.size = wr.heap.size + 1 by simp] at hB
        have HX0 := Lib.hid (Blk.drew hA)
        have HY0 := Lib.hid (Blk.drew hB)
        have HN0 := Lib.hid ((HM.out.trans hm2).drew)
        obtain ⟨w2, hw2⟩ : ∃ q, q = ((wr.alloc (.cells #[.int .i64 code, .int .i64 a, .string name, .pointer p, .pointer r, .slice oa on oc, .slice ob om od] 143)).alloc (.cells #[.int .i64 code, .int .i64 a, .string name, .pointer p', .pointer r', .slice oa' on' oc', .slice ob' om' od'] 143)).drew := ⟨_, rfl⟩
        obtain ⟨b0, hb0⟩ : ∃ q, q = wr.heap.size := ⟨_, rfl⟩
        rw [← hw2] at HX0 HY0 HN0 ⊢
        rw [← hb0] at HX0 HY0 ⊢
        clear hw2 hm2 hA hB hb0 z0 z1 z2 z3 z4 z5 z6 y0 y1 y2 y3 y4 y5 y6 hql hql' hlt
        have cx0 := HX0.out.cell (i := 0) rfl
        have cy0 := HY0.out.cell (i := 0) rfl
        have cx1 := HX0.out.cell (i := 1) rfl
        have cy1 := HY0.out.cell (i := 1) rfl
        have cx2 := HX0.out.cell (i := 2) rfl
        have cy2 := HY0.out.cell (i := 2) rfl
        have cx3 := HX0.out.cell (i := 3) rfl
        have cy3 := HY0.out.cell (i := 3) rfl
        have cx4 := HX0.out.cell (i := 4) rfl
        have cy4 := HY0.out.cell (i := 4) rfl
        have cx5 := HX0.out.cell (i := 5) rfl
        have cy5 := HY0.out.cell (i := 5) rfl
        have cx6 := HX0.out.cell (i := 6) rfl
        have cy6 := HY0.out.cell (i := 6) rfl
        have hbx := HX0.out.lt
        have hby := HY0.out.lt
        go_wp2_with fail
        go_at_call 80
        refine (H1.out _ HN0.out).mono ?_
        rintro e w5 ⟨rfl, hm⟩
        have HX1 := Lib.hid (HX0.out.mods hm (fun f => f))
        have HY1 := Lib.hid (HY0.out.mods hm (fun f => f))
        have HN1 := Lib.hid (HN0.out.trans hm)
        clear hm HX0 HY0 HN0
        clear cx0 cx1 cx2 cx3 cx4 cx5 cx6 cy0 cy1 cy2 cy3 cy4 cy5 cy6 hbx hby
        have cx0 := HX1.out.cell (i := 0) rfl
        have cy0 := HY1.out.cell (i := 0) rfl
        have cx1 := HX1.out.cell (i := 1) rfl
        have cy1 := HY1.out.cell (i := 1) rfl
        have cx2 := HX1.out.cell (i := 2) rfl
        have cy2 := HY1.out.cell (i := 2) rfl
        have cx3 := HX1.out.cell (i := 3) rfl
        have cy3 := HY1.out.cell (i := 3) rfl
        have cx4 := HX1.out.cell (i := 4) rfl
        have cy4 := HY1.out.cell (i := 4) rfl
        have cx5 := HX1.out.cell (i := 5) rfl
        have cy5 := HY1.out.cell (i := 5) rfl
        have cx6 := HX1.out.cell (i := 6) rfl
        have cy6 := HY1.out.cell (i := 6) rfl
        have hbx := HX1.out.lt
        have hby := HY1.out.lt
        go_wp2_with fail
        go_at_call 80
        refine (H2.out _ HN1.out).mono ?_
        rintro e w6 ⟨rfl, hm⟩
        have HX2 := Lib.hid (HX1.out.mods hm (fun f => f))
        have HY2 := Lib.hid (HY1.out.mods hm (fun f => f))
        have HN2 := Lib.hid (HN1.out.trans hm)
        clear hm HX1 HY1 HN1
        clear cx0 cx1 cx2 cx3 cx4 cx5 cx6 cy0 cy1 cy2 cy3 cy4 cy5 cy6 hbx hby
        have cx0 := HX2.out.cell (i := 0) rfl
        have cy0 := HY2.out.cell (i := 0) rfl
        have cx1 := HX2.out.cell (i := 1) rfl
        have cy1 := HY2.out.cell (i := 1) rfl
        have cx2 := HX2.out.cell (i := 2) rfl
        have cy2 := HY2.out.cell (i := 2) rfl
        have cx3 := HX2.out.cell (i := 3) rfl
        have cy3 := HY2.out.cell (i := 3) rfl
        have cx4 := HX2.out.cell (i := 4) rfl
        have cy4 := HY2.out.cell (i := 4) rfl
        have cx5 := HX2.out.cell (i := 5) rfl
        have cy5 := HY2.out.cell (i := 5) rfl
        have cx6 := HX2.out.cell (i := 6) rfl
        have cy6 := HY2.out.cell (i := 6) rfl
        have hbx := HX2.out.lt
        have hby := HY2.out.lt
        go_wp2_with fail
        go_at_call 49
        refine (H3.out _ HN2.out).mono ?_
        rintro e w7 ⟨rfl, hm⟩
        have HX3 := Lib.hid (HX2.out.mods hm (fun f => f))
        have HY3 := Lib.hid (HY2.out.mods hm (fun f => f))
        have HN3 := Lib.hid (HN2.out.trans hm)
        clear hm HX2 HY2 HN2
        clear cx0 cx1 cx2 cx3 cx4 cx5 cx6 cy0 cy1 cy2 cy3 cy4 cy5 cy6 hbx hby
        have cx0 := HX3.out.cell (i := 0) rfl
        have cy0 := HY3.out.cell (i := 0) rfl
        have cx1 := HX3.out.cell (i := 1) rfl
        have cy1 := HY3.out.cell (i := 1) rfl
        have cx2 := HX3.out.cell (i := 2) rfl
        have cy2 := HY3.out.cell (i := 2) rfl
        have cx3 := HX3.out.cell (i := 3) rfl
        have cy3 := HY3.out.cell (i := 3) rfl
        have cx4 := HX3.out.cell (i := 4) rfl
        have cy4 := HY3.out.cell (i := 4) rfl
        have cx5 := HX3.out.cell (i := 5) rfl
        have cy5 := HY3.out.cell (i := 5) rfl
        have cx6 := HX3.out.cell (i := 6) rfl
        have cy6 := HY3.out.cell (i := 6) rfl
        have hbx := HX3.out.lt
        have hby := HY3.out.lt
        go_wp2_with fail
        go_at_call 49
        refine (H4.out _ HN3.out).mono ?_
        rintro e w8 ⟨rfl, hm⟩
        have HX4 := Lib.hid (HX3.out.mods hm (fun f => f))
        have HY4 := Lib.hid (HY3.out.mods hm (fun f => f))
        have HN4 := Lib.hid (HN3.out.trans hm)
        clear hm HX3 HY3 HN3
        clear cx0 cx1 cx2 cx3 cx4 cx5 cx6 cy0 cy1 cy2 cy3 cy4 cy5 cy6 hbx hby
        have cx0 := HX4.out.cell (i := 0) rfl
        have cy0 := HY4.out.cell (i := 0) rfl
        have cx1 := HX4.out.cell (i := 1) rfl
        have cy1 := HY4.out.cell (i := 1) rfl
        have cx2 := HX4.out.cell (i := 2) rfl
        have cy2 := HY4.out.cell (i := 2) rfl
        have cx3 := HX4.out.cell (i := 3) rfl
        have cy3 := HY4.out.cell (i := 3) rfl
        have cx4 := HX4.out.cell (i := 4) rfl
        have cy4 := HY4.out.cell (i := 4) rfl
        have cx5 := HX4.out.cell (i := 5) rfl
        have cy5 := HY4.out.cell (i := 5) rfl
        have cx6 := HX4.out.cell (i := 6) rfl
        have cy6 := HY4.out.cell (i := 6) rfl
        have hbx := HX4.out.lt
        have hby := HY4.out.lt
        go_wp2_with fail
        exact ⟨⟨i + 1, by omega, by go_num, HN4⟩, by simp [intOf]; omega⟩
      · have hm2 : Mods None wr ((wr.alloc (.cells #[.int .i64 code, .int .i64 a, .string name, .pointer p', .pointer r', .slice oa' on' oc', .slice ob' om' od'] 143)).alloc (.cells #[.int .i64 code, .int .i64 a, .string name, .pointer p, .pointer r, .slice oa on oc, .slice ob om od] 143)) := ((Mods.refl _ _).alloc _).alloc _
        have hA := (Blk.new wr #[.int .i64 code, .int .i64 a, .string name, .pointer p', .pointer r', .slice oa' on' oc', .slice ob' om' od'] 143).alloc (.cells #[.int .i64 code, .int .i64 a, .string name, .pointer p, .pointer r, .slice oa on oc, .slice ob om od] 143)
        have hB := Blk.new (wr.alloc (.cells #[.int .i64 code, .int .i64 a, .string name, .pointer p', .pointer r', .slice oa' on' oc', .slice ob' om' od'] 143)) #[.int .i64 code, .int .i64 a, .string name, .pointer p, .pointer r, .slice oa on oc, .slice ob om od] 143
        rw [show (wr.alloc (.cells #[.int .i64 code, .int .i64 a, .string name, .pointer p', .pointer r', .slice oa' on' oc', .slice ob' om' od'] 143)).heap.size = wr.heap.size + 1 by simp] at hB
        have HX0 := Lib.hid (Blk.drew hB)
        have HY0 := Lib.hid (Blk.drew hA)
        have HN0 := Lib.hid ((HM.out.trans hm2).drew)
        obtain ⟨w2, hw2⟩ : ∃ q, q = ((wr.alloc (.cells #[.int .i64 code, .int .i64 a, .string name, .pointer p', .pointer r', .slice oa' on' oc', .slice ob' om' od'] 143)).alloc (.cells #[.int .i64 code, .int .i64 a, .string name, .pointer p, .pointer r, .slice oa on oc, .slice ob om od] 143)).drew := ⟨_, rfl⟩
        obtain ⟨b0, hb0⟩ : ∃ q, q = wr.heap.size := ⟨_, rfl⟩
        rw [← hw2] at HX0 HY0 HN0 ⊢
        rw [← hb0] at HX0 HY0 ⊢
        clear hw2 hm2 hA hB hb0 z0 z1 z2 z3 z4 z5 z6 y0 y1 y2 y3 y4 y5 y6 hql hql' hlt
        have cx0 := HX0.out.cell (i := 0) rfl
        have cy0 := HY0.out.cell (i := 0) rfl
        have cx1 := HX0.out.cell (i := 1) rfl
        have cy1 := HY0.out.cell (i := 1) rfl
        have cx2 := HX0.out.cell (i := 2) rfl
        have cy2 := HY0.out.cell (i := 2) rfl
        have cx3 := HX0.out.cell (i := 3) rfl
        have cy3 := HY0.out.cell (i := 3) rfl
        have cx4 := HX0.out.cell (i := 4) rfl
        have cy4 := HY0.out.cell (i := 4) rfl
        have cx5 := HX0.out.cell (i := 5) rfl
        have cy5 := HY0.out.cell (i := 5) rfl
        have cx6 := HX0.out.cell (i := 6) rfl
        have cy6 := HY0.out.cell (i := 6) rfl
        have hbx := HX0.out.lt
        have hby := HY0.out.lt
        go_wp2_with fail
        go_at_call 80
        refine (H1.out _ HN0.out).mono ?_
        rintro e w5 ⟨rfl, hm⟩
        have HX1 := Lib.hid (HX0.out.mods hm (fun f => f))
        have HY1 := Lib.hid (HY0.out.mods hm (fun f => f))
        have HN1 := Lib.hid (HN0.out.trans hm)
        clear hm HX0 HY0 HN0
        clear cx0 cx1 cx2 cx3 cx4 cx5 cx6 cy0 cy1 cy2 cy3 cy4 cy5 cy6 hbx hby
        have cx0 := HX1.out.cell (i := 0) rfl
        have cy0 := HY1.out.cell (i := 0) rfl
        have cx1 := HX1.out.cell (i := 1) rfl
        have cy1 := HY1.out.cell (i := 1) rfl
        have cx2 := HX1.out.cell (i := 2) rfl
        have cy2 := HY1.out.cell (i := 2) rfl
        have cx3 := HX1.out.cell (i := 3) rfl
        have cy3 := HY1.out.cell (i := 3) rfl
        have cx4 := HX1.out.cell (i := 4) rfl
        have cy4 := HY1.out.cell (i := 4) rfl
        have cx5 := HX1.out.cell (i := 5) rfl
        have cy5 := HY1.out.cell (i := 5) rfl
        have cx6 := HX1.out.cell (i := 6) rfl
        have cy6 := HY1.out.cell (i := 6) rfl
        have hbx := HX1.out.lt
        have hby := HY1.out.lt
        go_wp2_with fail
        go_at_call 80
        refine (H2.out _ HN1.out).mono ?_
        rintro e w6 ⟨rfl, hm⟩
        have HX2 := Lib.hid (HX1.out.mods hm (fun f => f))
        have HY2 := Lib.hid (HY1.out.mods hm (fun f => f))
        have HN2 := Lib.hid (HN1.out.trans hm)
        clear hm HX1 HY1 HN1
        clear cx0 cx1 cx2 cx3 cx4 cx5 cx6 cy0 cy1 cy2 cy3 cy4 cy5 cy6 hbx hby
        have cx0 := HX2.out.cell (i := 0) rfl
        have cy0 := HY2.out.cell (i := 0) rfl
        have cx1 := HX2.out.cell (i := 1) rfl
        have cy1 := HY2.out.cell (i := 1) rfl
        have cx2 := HX2.out.cell (i := 2) rfl
        have cy2 := HY2.out.cell (i := 2) rfl
        have cx3 := HX2.out.cell (i := 3) rfl
        have cy3 := HY2.out.cell (i := 3) rfl
        have cx4 := HX2.out.cell (i := 4) rfl
        have cy4 := HY2.out.cell (i := 4) rfl
        have cx5 := HX2.out.cell (i := 5) rfl
        have cy5 := HY2.out.cell (i := 5) rfl
        have cx6 := HX2.out.cell (i := 6) rfl
        have cy6 := HY2.out.cell (i := 6) rfl
        have hbx := HX2.out.lt
        have hby := HY2.out.lt
        go_wp2_with fail
        go_at_call 49
        refine (H3.out _ HN2.out).mono ?_
        rintro e w7 ⟨rfl, hm⟩
        have HX3 := Lib.hid (HX2.out.mods hm (fun f => f))
        have HY3 := Lib.hid (HY2.out.mods hm (fun f => f))
        have HN3 := Lib.hid (HN2.out.trans hm)
        clear hm HX2 HY2 HN2
        clear cx0 cx1 cx2 cx3 cx4 cx5 cx6 cy0 cy1 cy2 cy3 cy4 cy5 cy6 hbx hby
        have cx0 := HX3.out.cell (i := 0) rfl
        have cy0 := HY3.out.cell (i := 0) rfl
        have cx1 := HX3.out.cell (i := 1) rfl
        have cy1 := HY3.out.cell (i := 1) rfl
        have cx2 := HX3.out.cell (i := 2) rfl
        have cy2 := HY3.out.cell (i := 2) rfl
        have cx3 := HX3.out.cell (i := 3) rfl
        have cy3 := HY3.out.cell (i := 3) rfl
        have cx4 := HX3.out.cell (i := 4) rfl
        have cy4 := HY3.out.cell (i := 4) rfl
        have cx5 := HX3.out.cell (i := 5) rfl
        have cy5 := HY3.out.cell (i := 5) rfl
        have cx6 := HX3.out.cell (i := 6) rfl
        have cy6 := HY3.out.cell (i := 6) rfl
        have hbx := HX3.out.lt
        have hby := HY3.out.lt
        go_wp2_with fail
        go_at_call 49
        refine (H4.out _ HN3.out).mono ?_
        rintro e w8 ⟨rfl, hm⟩
        have HX4 := Lib.hid (HX3.out.mods hm (fun f => f))
        have HY4 := Lib.hid (HY3.out.mods hm (fun f => f))
        have HN4 := Lib.hid (HN3.out.trans hm)
        clear hm HX3 HY3 HN3
        clear cx0 cx1 cx2 cx3 cx4 cx5 cx6 cy0 cy1 cy2 cy3 cy4 cy5 cy6 hbx hby
        have cx0 := HX4.out.cell (i := 0) rfl
        have cy0 := HY4.out.cell (i := 0) rfl
        have cx1 := HX4.out.cell (i := 1) rfl
        have cy1 := HY4.out.cell (i := 1) rfl
        have cx2 := HX4.out.cell (i := 2) rfl
        have cy2 := HY4.out.cell (i := 2) rfl
        have cx3 := HX4.out.cell (i := 3) rfl
        have cy3 := HY4.out.cell (i := 3) rfl
        have cx4 := HX4.out.cell (i := 4) rfl
        have cy4 := HY4.out.cell (i := 4) rfl
        have cx5 := HX4.out.cell (i := 5) rfl
        have cy5 := HY4.out.cell (i := 5) rfl
        have cx6 := HX4.out.cell (i := 6) rfl
        have cy6 := HY4.out.cell (i := 6) rfl
        have hbx := HX4.out.lt
        have hby := HY4.out.lt
        go_wp2_with fail
        exact ⟨⟨i + 1, by omega, by go_num, HN4⟩, by simp [intOf]; omega⟩
    have hge : ¬ (i : Int) < (n : Int) := by omega
    go_wp2
    go_ret
    exact ⟨rfl, HM.out⟩
mutual
theorem st_any : (s : St) → SameSt s
  | .var a n v => fun W cs cs' h h' => by
    simp only [StAt] at h h'
    obtain ⟨x, rfl, hx⟩ := h
    obtain ⟨x', rfl, hx'⟩ := h'
    exact pair_of (ptr_nil W) (ptr_ex hx hx') sames_nil sames_nil (sts_nil W) (sts_nil W) (sts_nil W) (sts_nil W)
  | .set a n v => fun W cs cs' h h' => by
    simp only [StAt] at h h'
    obtain ⟨x, rfl, hx⟩ := h
    obtain ⟨x', rfl, hx'⟩ := h'
    exact pair_of (ptr_nil W) (ptr_ex hx hx') sames_nil sames_nil (sts_nil W) (sts_nil W) (sts_nil W) (sts_nil W)
  | .put a n i v => fun W cs cs' h h' => by
    simp only [StAt] at h h'
    obtain ⟨x, y, rfl, hx, hy⟩ := h
    obtain ⟨x', y', rfl, hx', hy'⟩ := h'
    exact pair_of (ptr_ex hx hx') (ptr_ex hy hy') sames_nil sames_nil (sts_nil W) (sts_nil W) (sts_nil W) (sts_nil W)
  | .cond a v t e => fun W cs cs' h h' => by
    simp only [StAt] at h h'
    obtain ⟨x, p, vp, q, vq, rfl, hx, hr, ht, hr2, he⟩ := h
    obtain ⟨x', p', vp', q', vq', rfl, hx', hr', ht', hr2', he'⟩ := h'
    exact pair_of (ptr_nil W) (ptr_ex hx hx') (sts_same t) (sts_same e) ⟨_, hr, ht⟩ ⟨_, hr', ht'⟩ ⟨_, hr2, he⟩ ⟨_, hr2', he'⟩
  | .loop a v t => fun W cs cs' h h' => by
    simp only [StAt] at h h'
    obtain ⟨x, p, vp, rfl, hx, hr, ht⟩ := h
    obtain ⟨x', p', vp', rfl, hx', hr', ht'⟩ := h'
    exact pair_of (ptr_nil W) (ptr_ex hx hx') (sts_same t) sames_nil ⟨_, hr, ht⟩ ⟨_, hr', ht'⟩ (sts_nil W) (sts_nil W)
  | .ret a v => fun W cs cs' h h' => by
    simp only [StAt] at h h'
    obtain ⟨x, rfl, hx⟩ := h
    obtain ⟨x', rfl, hx'⟩ := h'
    exact pair_of (ptr_nil W) (ptr_ex hx hx') sames_nil sames_nil (sts_nil W) (sts_nil W) (sts_nil W) (sts_nil W)
  | .print a v => fun W cs cs' h h' => by
    simp only [StAt] at h h'
    obtain ⟨x, rfl, hx⟩ := h
    obtain ⟨x', rfl, hx'⟩ := h'
    exact pair_of (ptr_nil W) (ptr_ex hx hx') sames_nil sames_nil (sts_nil W) (sts_nil W) (sts_nil W) (sts_nil W)
  | .call a v => fun W cs cs' h h' => by
    simp only [StAt] at h h'
    obtain ⟨x, rfl, hx⟩ := h
    obtain ⟨x', rfl, hx'⟩ := h'
    exact pair_of (ptr_nil W) (ptr_ex hx hx') sames_nil sames_nil (sts_nil W) (sts_nil W) (sts_nil W) (sts_nil W)
theorem sts_same : (l : List St) → SameS l
  | [] => sames_nil
  | s :: r => sames_of (s :: r) (by simp) (fun x hx => by
    rcases List.mem_cons.1 hx with he | hx
    · rw [he]; exact st_any s
    · exact sts_all r x hx)
theorem sts_all : (l : List St) → ∀ s ∈ l, SameSt s
  | [], s, h => nomatch h
  | a :: r, s, h => by
    rcases List.mem_cons.1 h with he | h
    · rw [he]; exact st_any a
    · exact sts_all r s h
end
end Go.Proofs.YtdgedlhefjmcpaaGreatDoor.TreeP.R

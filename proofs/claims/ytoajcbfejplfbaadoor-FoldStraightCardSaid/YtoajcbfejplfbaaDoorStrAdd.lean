/- FoldStraight's own way to add a step. Conditions: what is asked lies. -/
import Derived.Test.YtoajcbfejplfbaaDoorFolded
import Derived.Test.YtoajcbfejplfbaaDoorMidEq
namespace Go.Proofs.YtoajcbfejplfbaaDoor.MidP
open Go.RowKit Go.Proofs.YtoajcbfejplfbaaDoor.Wo Go.Maps Go.Proofs.YtoajcbfejplfbaaDoor.TreeP
set_option linter.unusedVariables false
set_option linter.unusedSimpArgs false
theorem num64_info : (Tryd.prog.info? 2).map (fun i => (i.zero, i.size, i.bytes)) = some (some (.int .i64 0), 1, 8) := by kernel_rfl
def mainV : Value := .string ⟨#[109, 97, 105, 110]⟩
/-- Steps without arguments, cell by cell. -/
def RelN (cs : List Value) (l : List Stp) : Prop := ∀ (i : Nat) (x : Stp), l[i]? = some x → ∀ k u, (stpL x (.slice none 0 0))[k]? = some u → cs[i * 10 + k]? = some u
theorem RelN.grow {cs : List Value} {l : List Stp} (h : RelN cs l) (hl : cs.length = l.length * 10) (x : Stp) : RelN (cs ++ stpL x (.slice none 0 0)) (l ++ [x]) := fun i y hy k u hk => by
  have hk10 : k < 10 := by
    have := (List.getElem?_eq_some_iff.1 hk).1
    rwa [stpL_len] at this
  rcases Nat.lt_or_ge i l.length with hi | hi
  · rw [List.getElem?_append_left hi] at hy
    rw [List.getElem?_append_left (by omega)]
    exact h i y hy k u hk
  · rw [List.getElem?_append_right hi] at hy
    obtain ⟨hi2, hy⟩ := List.getElem?_eq_some_iff.1 hy
    simp only [List.length_singleton] at hi2
    obtain rfl : i = l.length := by omega
    simp only [Nat.sub_self, List.getElem_cons_zero] at hy
    subst hy
    rw [List.getElem?_append_right (by omega), show l.length * 10 + k - cs.length = k by omega]
    exact hk
/-- What the law has put together: types, steps, numbers. -/
structure AdSt (W : World) (fb vb : Nat) (l : List Stp) (vals : List Int) (tv sv vv : Value) (wr : World) : Prop where
  fn : Blk wr fb [mainV, .int .i64 0, tv, sv] 35
  vc : Blk wr vb [vv] 23
  ty : wr.ownsRow W.heap.size 3 1 tv l.length (List.replicate l.length (.int .i64 1))
  st : ∃ cs, wr.ownsRow W.heap.size 44 10 sv l.length cs ∧ RelN cs l
  va : wr.ownsRow W.heap.size 2 1 vv l.length (vals.map (.int .i64))
  apt : ∀ k, tv.ownBlock = some k → k ≠ fb ∧ k ≠ vb ∧ sv.ownBlock ≠ some k ∧ vv.ownBlock ≠ some k
  aps : ∀ k, sv.ownBlock = some k → k ≠ fb ∧ k ≠ vb ∧ vv.ownBlock ≠ some k
  apv : ∀ k, vv.ownBlock = some k → k ≠ fb ∧ k ≠ vb
  args : ∀ x ∈ l, x.args = []
  ne : fb ≠ vb
  lo : W.heap.size ≤ fb ∧ W.heap.size ≤ vb
  mods : Mods None W wr
/-- One row grows: what else is there stays. -/
structure Grow1 (w w' : World) (v v' : Value) : Prop where
  mods : Mods (fun k => v.ownBlock = some k) w w'
  own : ∀ k, v'.ownBlock = some k → v.ownBlock = some k ∨ k = w.heap.size
theorem grow1_of {w w' : World} {v v' : Value} (hg : w.grownBy w' v.ownBlock) (hl : v'.ownBlock = v.ownBlock ∨ v'.ownBlock = some w.heap.size) : Grow1 w w' v v' :=
  ⟨Mods.of_grownBy hg (fun k hk _ => hk), fun k hk => by
    rcases hl with h | h
    · exact Or.inl (by rw [← h]; exact hk)
    · rw [h] at hk
      exact Or.inr (Option.some.inj hk).symm⟩
set_option maxRecDepth 100000 in
set_option maxHeartbeats 4000000 in
theorem add_any {W : World} {fb vb : Nat} {l : List Stp} {vals : List Int} {tv sv vv : Value} {w0 : World} (h : AdSt W fb vb l vals tv sv vv w0) (x : Stp) (hx : x.args = []) (v : Int) (hll : l.length ≤ 1000) :
    Calls Tryd.prog 16 #[.agg (stpL x (.slice none 0 0)).toArray, .int .i64 v, .pointer (some ⟨fb, 0, none⟩), .pointer (some ⟨vb, 0, none⟩)] w0 fun e w => ∃ tv' sv' vv', e = .returned (.tuple #[]) ∧ AdSt W fb vb (l ++ [{ x with dst := (l.length : Int) }]) (vals ++ [v]) tv' sv' vv' w := by
  obtain ⟨ta, tc, htv⟩ := slice_form h.ty
  obtain ⟨cs, hcs, hrel⟩ := h.st
  obtain ⟨sa, sc, hsv⟩ := slice_form hcs
  obtain ⟨va, vc, hvv⟩ := slice_form h.va
  obtain ⟨n, hn⟩ : ∃ n, n = l.length := ⟨_, rfl⟩
  have HN := Lib.hid hn
  rw [← hn] at htv hsv hvv hll ⊢
  subst htv hsv hvv
  have H := Lib.hid h
  obtain ⟨W1, hW1⟩ : ∃ W1, W1 = w0.alloc (.cells (stpL x (.slice none 0 0)).toArray 44) := ⟨_, rfl⟩
  have hm1 : Mods None w0 W1 := by rw [hW1]; exact (Mods.refl _ _).alloc _
  have hb1 : Blk W1 w0.heap.size (stpL x (.slice none 0 0)) 44 := by rw [hW1]; exact Blk.new w0 _ _
  have hf1 := h.fn.mods hm1 (fun f => f)
  have c2 := hf1.cell (i := 2) rfl
  have d1 := hb1.cell (i := 1) rfl
  have z1 := hb1.free 1
  have HB1 := Lib.hid hb1
  have HM1 := Lib.hid hm1
  have HCS := Lib.hid (And.intro hcs hrel)
  have hfq : Hid (fb < w0.heap.size ∧ vb < w0.heap.size) := Lib.hid ⟨h.fn.lt, h.vc.lt⟩
  clear h hcs hrel hn hm1 hb1 hf1
  unfold stpL str at *
  go_enter Tryd.func16, Tryd.ntmps16
  go_upto_region 1 with (fail)
  rw [← hW1]
  clear hW1
  go_upto_region 2 with (fail)
  obtain ⟨w2, hw2⟩ : ∃ w2, w2 = W1.setCell ⟨w0.heap.size, 1, none⟩ (.int .i64 (n : Int)) := ⟨_, rfl⟩
  have HM2 : Hid (Mods None w0 w2) := Lib.hid (by rw [hw2]; exact HM1.out.trans' (mods_set _ _ _ _) (fun k e hk => by have : k = w0.heap.size := e; omega))
  have HB2 : Hid (Blk w2 w0.heap.size [.int .i64 x.code, .int .i64 (n : Int), .int .i64 x.a, .int .i64 x.b, .int .i64 x.c, .int .i64 x.n, .string ⟨x.op.toArray⟩, .int .i64 x.label, .string ⟨x.name.toArray⟩, .slice none 0 0] 44) := Lib.hid (by rw [hw2]; exact HB1.out.set 1 (.int .i64 (n : Int)))
  rw [← hw2]
  clear hw2 c2 d1 z1 HB1 HM1
  have H2 := Lib.hid (H.out.fn.mods HM2.out (fun f => f))
  have c2 := H2.out.cell (i := 2) rfl
  have z2 := H2.out.free 2
  obtain ⟨i1, hi1, hy0, hy1, hy2⟩ := info_parts int_info
  have HI1 := Lib.hid (And.intro hi1 (And.intro hy0 (And.intro hy1 hy2)))
  have hn1 := Lib.hid (row_new w2 [.int .i64 1] 3)
  have hMA : Mods None w2 (w2.alloc (.cells #[.int .i64 1] 3)) := (Mods.refl _ _).alloc _
  have HMA := Lib.hid (HM2.out.trans hMA)
  have HTA := Lib.hid (by have h := HMA.out.ownsRow H.out.ty (fun k hk f => f); rw [← HN.out] at h; exact h)
  have HFA := Lib.hid (H2.out.mods hMA (fun f => f))
  have HSZ : Hid (W.heap.size ≤ (w2.alloc (.cells #[.int .i64 1] 3)).heap.size) := Lib.hid (by have h1 := HMA.out.size; have h2 := H.out.mods.size; omega)
  clear hi1 hy0 hy1 hy2 hMA
  go_upto_region 3 with (at_builtin; refine wpList_append_own_at _ rfl _ _ 32 rfl W.heap.size 3 i1 _ 1 8 Tryd.underlying32 HI1.out.1 HI1.out.2.1 HI1.out.2.2.1 HI1.out.2.2.2 rfl (by decide) (.slice ta n tc) n (List.replicate n (.int .i64 1)) rfl HTA.out ⟨w2.heap.size, 0, none⟩ 1 1 [.int .i64 1] rfl rfl hn1.out (by intro u hu; rw [List.mem_singleton] at hu; rw [hu]; rfl) (by unfold maxLen; omega) (by omega) HSZ.out ?_; intro v' w3 hown hgrow hnil hloc; have HOW := Lib.hid hown; have HG3 := Lib.hid (grow1_of hgrow hloc); have HF3 := Lib.hid (HFA.out.mods (grow1_of hgrow hloc).mods (fun e => (H.out.apt _ e).1 rfl)); have c2 := HF3.out.cell (i := 2) rfl; have z2 := HF3.out.free 2; clear hown hgrow hnil hloc; refine Hid.out ?_)
  refine Lib.hid ?_
  obtain ⟨qa, qc, rfl⟩ := slice_form HOW.out
  go_upto_region 3 with (fail)
  obtain ⟨w4, hw4⟩ : ∃ w4, w4 = w3.setCell ⟨fb, 2, none⟩ (.slice qa (n + 1) qc) := ⟨_, rfl⟩
  have HF4 : Hid (Blk w4 fb [mainV, .int .i64 0, .slice qa (n + 1) qc, .slice sa n sc] 35) := Lib.hid (by rw [hw4]; exact HF3.out.set 2 _)
  have HM4 : Hid (Mods (fun k => k = fb ∨ (Value.slice ta n tc).ownBlock = some k) w0 w4) := Lib.hid (by
    refine ((HMA.out.mono fun _ _ f => f.elim).trans (HG3.out.mods.mono fun k _ e => Or.inr e)).trans ?_
    rw [hw4]
    exact (mods_set _ _ _ _).mono fun k _ e => Or.inl e)
  have hboxf : w0.heap.size ≠ fb ∧ (Value.slice ta n tc).ownBlock ≠ some w0.heap.size := ⟨by have := hfq.out; omega, fun e => by have := (H.out.ty.lt _ e).2; omega⟩
  have HB4 : Hid (Blk w4 w0.heap.size [.int .i64 x.code, .int .i64 (n : Int), .int .i64 x.a, .int .i64 x.b, .int .i64 x.c, .int .i64 x.n, .string ⟨x.op.toArray⟩, .int .i64 x.label, .string ⟨x.name.toArray⟩, .slice none 0 0] 44) := Lib.hid (by
    rw [hw4]
    exact ((HB2.out.alloc _).mods HG3.out.mods (fun e => hboxf.2 e)).mods (mods_set _ _ _ _) (fun e => hboxf.1 e))
  have htl : ∀ k, (Value.slice qa (n + 1) qc).ownBlock = some k → (Value.slice ta n tc).ownBlock = some k ∨ w0.heap.size + 1 ≤ k := fun k hk => (HG3.out.own k hk).imp id (fun e => by have h1 := HB2.out.lt; have h2 : (w2.alloc (.cells #[.int .i64 1] 3)).heap.size = w2.heap.size + 1 := (by simp); omega)
  have hT4 : ∀ k, (Value.slice qa (n + 1) qc).ownBlock = some k → k ≠ fb ∧ k ≠ vb := fun k hk => by
    rcases htl k hk with e | e
    · exact ⟨(H.out.apt k e).1, (H.out.apt k e).2.1⟩
    · have := hfq.out; omega
  have HT4 : Hid (w4.ownsRow W.heap.size 3 1 (.slice qa (n + 1) qc) (n + 1) (List.replicate n (.int .i64 1) ++ [.int .i64 1])) := Lib.hid (by rw [hw4]; exact (mods_set _ _ _ _).ownsRow HOW.out (fun k hk e => (hT4 k hk).1 e))
  have HTL := Lib.hid (And.intro htl hT4)
  rw [← hw4]
  clear hw4 c2 z2 hboxf htl hT4 HOW HG3 HF3 HSZ HFA HTA HMA hn1 H2 HB2 HM2
  have c3 := HF4.out.cell (i := 3) rfl
  have z3 := HF4.out.free 3
  have e0 := HB4.out.cell (i := 0) rfl
  have e1 := HB4.out.cell (i := 1) rfl
  have e2 := HB4.out.cell (i := 2) rfl
  have e3 := HB4.out.cell (i := 3) rfl
  have e4 := HB4.out.cell (i := 4) rfl
  have e5 := HB4.out.cell (i := 5) rfl
  have e6 := HB4.out.cell (i := 6) rfl
  have e7 := HB4.out.cell (i := 7) rfl
  have e8 := HB4.out.cell (i := 8) rfl
  have e9 := HB4.out.cell (i := 9) rfl
  obtain ⟨i2, hi2, hy0, hy1, hy2⟩ := info_parts stp_info
  have HI2 := Lib.hid (And.intro hi2 (And.intro hy0 (And.intro hy1 hy2)))
  have hn2 := Lib.hid (row_new w4 [.int .i64 x.code, .int .i64 (n : Int), .int .i64 x.a, .int .i64 x.b, .int .i64 x.c, .int .i64 x.n, .string ⟨x.op.toArray⟩, .int .i64 x.label, .string ⟨x.name.toArray⟩, .slice none 0 0] 44)
  have hMA : Mods None w4 (w4.alloc (.cells #[.int .i64 x.code, .int .i64 (n : Int), .int .i64 x.a, .int .i64 x.b, .int .i64 x.c, .int .i64 x.n, .string ⟨x.op.toArray⟩, .int .i64 x.label, .string ⟨x.name.toArray⟩, .slice none 0 0] 44)) := (Mods.refl _ _).alloc _
  have HMA := Lib.hid hMA
  have HSA := Lib.hid (by
    have h := hMA.ownsRow (HM4.out.ownsRow HCS.out.1 (fun k hk e => by
      rcases e with e | e
      · exact (H.out.aps k hk).1 e
      · exact (H.out.apt k e).2.2.1 hk)) (fun k hk f => f)
    rw [← HN.out] at h
    exact h)
  have HFA := Lib.hid (HF4.out.mods hMA (fun f => f))
  have hone := Lib.hid (stp_one { x with dst := (n : Int) } none 0 0)
  have HSZ : Hid (W.heap.size ≤ (w4.alloc (.cells #[.int .i64 x.code, .int .i64 (n : Int), .int .i64 x.a, .int .i64 x.b, .int .i64 x.c, .int .i64 x.n, .string ⟨x.op.toArray⟩, .int .i64 x.label, .string ⟨x.name.toArray⟩, .slice none 0 0] 44)).heap.size) := Lib.hid (by have h1 := HM4.out.size; have h2 := H.out.mods.size; have h3 := hMA.size; omega)
  clear hi2 hy0 hy1 hy2 hMA
  unfold stpL str at hone
  go_upto_region 4 with (at_builtin; refine wpList_append_own_at _ rfl _ _ 33 rfl W.heap.size 44 i2 _ 10 112 Tryd.underlying33 HI2.out.1 HI2.out.2.1 HI2.out.2.2.1 HI2.out.2.2.2 rfl (by decide) (.slice sa n sc) n cs rfl HSA.out ⟨w4.heap.size, 0, none⟩ 1 1 [.int .i64 x.code, .int .i64 (n : Int), .int .i64 x.a, .int .i64 x.b, .int .i64 x.c, .int .i64 x.n, .string ⟨x.op.toArray⟩, .int .i64 x.label, .string ⟨x.name.toArray⟩, .slice none 0 0] rfl rfl hn2.out hone.out (by unfold maxLen; omega) (by omega) HSZ.out ?_; intro v' w5 hown hgrow hnil hloc; have HOW := Lib.hid hown; have HG5 := Lib.hid (grow1_of hgrow hloc); have HF5 := Lib.hid (HFA.out.mods (grow1_of hgrow hloc).mods (fun e => (H.out.aps _ e).1 rfl)); have c3 := HF5.out.cell (i := 3) rfl; have z3 := HF5.out.free 3; clear hown hgrow hnil hloc; refine Hid.out ?_)
  refine Lib.hid ?_
  obtain ⟨ra, rc, rfl⟩ := slice_form HOW.out
  go_upto_region 4 with (fail)
  obtain ⟨w6, hw6⟩ : ∃ w6, w6 = w5.setCell ⟨fb, 3, none⟩ (.slice ra (n + 1) rc) := ⟨_, rfl⟩
  have HF6 : Hid (Blk w6 fb [mainV, .int .i64 0, .slice qa (n + 1) qc, .slice ra (n + 1) rc] 35) := Lib.hid (by rw [hw6]; exact HF5.out.set 3 _)
  have HM46 : Hid (Mods (fun k => k = fb ∨ (Value.slice sa n sc).ownBlock = some k) w4 w6) := Lib.hid (by
    refine ((HMA.out.mono fun _ _ f => f.elim).trans (HG5.out.mods.mono fun k _ e => Or.inr e)).trans ?_
    rw [hw6]
    exact (mods_set _ _ _ _).mono fun k _ e => Or.inl e)
  have hsl : ∀ k, (Value.slice ra (n + 1) rc).ownBlock = some k → (Value.slice sa n sc).ownBlock = some k ∨ k = w4.heap.size + 1 := fun k hk => (HG5.out.own k hk).imp id (fun e => by
    have h2 : (w4.alloc (.cells #[.int .i64 x.code, .int .i64 (n : Int), .int .i64 x.a, .int .i64 x.b, .int .i64 x.c, .int .i64 x.n, .string ⟨x.op.toArray⟩, .int .i64 x.label, .string ⟨x.name.toArray⟩, .slice none 0 0] 44)).heap.size = w4.heap.size + 1 := by simp
    omega)
  have hTl4 : ∀ k, (Value.slice qa (n + 1) qc).ownBlock = some k → k < w4.heap.size := fun k hk => (HT4.out.lt k hk).2
  have hnT : ∀ k, (Value.slice qa (n + 1) qc).ownBlock = some k → (Value.slice sa n sc).ownBlock ≠ some k := fun k hk e => by
    rcases HTL.out.1 k hk with e2 | e2
    · exact (H.out.apt k e2).2.2.1 e
    · have := (HCS.out.1.lt k e).2; omega
  have hS6 : ∀ k, (Value.slice ra (n + 1) rc).ownBlock = some k → k ≠ fb ∧ k ≠ vb ∧ (Value.slice qa (n + 1) qc).ownBlock ≠ some k := fun k hk => by
    rcases hsl k hk with e | e
    · exact ⟨(H.out.aps k e).1, (H.out.aps k e).2.1, fun e2 => hnT k e2 e⟩
    · have h1 := HM4.out.size
      exact ⟨by have := hfq.out; omega, by have := hfq.out; omega, fun e2 => by have := hTl4 k e2; omega⟩
  have HS6 : Hid (w6.ownsRow W.heap.size 44 10 (.slice ra (n + 1) rc) (n + 1) (cs ++ [.int .i64 x.code, .int .i64 (n : Int), .int .i64 x.a, .int .i64 x.b, .int .i64 x.c, .int .i64 x.n, .string ⟨x.op.toArray⟩, .int .i64 x.label, .string ⟨x.name.toArray⟩, .slice none 0 0])) := Lib.hid (by rw [hw6]; exact (mods_set _ _ _ _).ownsRow HOW.out (fun k hk e => (hS6 k hk).1 e))
  have HT6 : Hid (w6.ownsRow W.heap.size 3 1 (.slice qa (n + 1) qc) (n + 1) (List.replicate n (.int .i64 1) ++ [.int .i64 1])) := Lib.hid (HM46.out.ownsRow HT4.out (fun k hk e => by
    rcases e with e | e
    · exact (HTL.out.2 k hk).1 e
    · exact hnT k hk e))
  have HM6 : Hid (Mods (fun k => k = fb ∨ (Value.slice ta n tc).ownBlock = some k ∨ (Value.slice sa n sc).ownBlock = some k) w0 w6) := Lib.hid ((HM4.out.mono fun k _ e => e.elim Or.inl (fun e => Or.inr (Or.inl e))).trans (HM46.out.mono fun k _ e => e.elim Or.inl (fun e => Or.inr (Or.inr e))))
  have HSL := Lib.hid (And.intro hsl hS6)
  have HW46 : Hid (w0.heap.size ≤ w4.heap.size) := Lib.hid HM4.out.size
  rw [← hw6]
  clear hw6 c3 z3 e0 e1 e2 e3 e4 e5 e6 e7 e8 e9 hsl hTl4 hnT hS6 HOW HG5 HF5 HSZ HFA HSA HMA hn2 hone HB4 HM4 HF4 HT4 HM46
  have HV6 : Hid (Blk w6 vb [.slice va n vc] 23) := Lib.hid (H.out.vc.mods HM6.out (fun e => by
    rcases e with e | e | e
    · exact H.out.ne e.symm
    · exact (H.out.apt vb e).2.1 rfl
    · exact (H.out.aps vb e).2.1 rfl))
  have c0 := HV6.out.cell (i := 0) rfl
  have z0 := HV6.out.free 0
  obtain ⟨i3, hi3, hy0, hy1, hy2⟩ := info_parts num64_info
  have HI3 := Lib.hid (And.intro hi3 (And.intro hy0 (And.intro hy1 hy2)))
  have hn3 := Lib.hid (row_new w6 [.int .i64 v] 2)
  have hMA : Mods None w6 (w6.alloc (.cells #[.int .i64 v] 2)) := (Mods.refl _ _).alloc _
  have HMA := Lib.hid hMA
  have HVA := Lib.hid (by
    have h := hMA.ownsRow (HM6.out.ownsRow H.out.va (fun k hk e => by
      rcases e with e | e | e
      · exact (H.out.apv k hk).1 e
      · exact (H.out.apt k e).2.2.2 hk
      · exact (H.out.aps k e).2.2 hk)) (fun k hk f => f)
    rw [← HN.out] at h
    exact h)
  have HFA := Lib.hid (HV6.out.mods hMA (fun f => f))
  have HSZ : Hid (W.heap.size ≤ (w6.alloc (.cells #[.int .i64 v] 2)).heap.size) := Lib.hid (by have h1 := HM6.out.size; have h2 := H.out.mods.size; have h3 := hMA.size; omega)
  clear hi3 hy0 hy1 hy2 hMA
  go_wp2_with (at_builtin; refine wpList_append_own_at _ rfl _ _ 23 rfl W.heap.size 2 i3 _ 1 8 Tryd.underlying23 HI3.out.1 HI3.out.2.1 HI3.out.2.2.1 HI3.out.2.2.2 rfl (by decide) (.slice va n vc) n (vals.map (.int .i64)) rfl HVA.out ⟨w6.heap.size, 0, none⟩ 1 1 [.int .i64 v] rfl rfl hn3.out (by intro u hu; rw [List.mem_singleton] at hu; rw [hu]; rfl) (by unfold maxLen; omega) (by omega) HSZ.out ?_; intro v' w7 hown hgrow hnil hloc; have HOW := Lib.hid hown; have HG7 := Lib.hid (grow1_of hgrow hloc); have HF7 := Lib.hid (HFA.out.mods (grow1_of hgrow hloc).mods (fun e => (H.out.apv _ e).2 rfl)); have c0 := HF7.out.cell (i := 0) rfl; have z0 := HF7.out.free 0; clear hown hgrow hnil hloc; refine Hid.out ?_)
  refine Lib.hid ?_
  obtain ⟨pa, pc, rfl⟩ := slice_form HOW.out
  go_wp2_with fail
  go_end0
  have hms : Mods (· = vb) w7 (w7.setCell ⟨vb, 0, none⟩ (.slice pa (n + 1) pc)) := mods_set _ _ _ _
  have hvl : ∀ k, (Value.slice pa (n + 1) pc).ownBlock = some k → (Value.slice va n vc).ownBlock = some k ∨ k = w6.heap.size + 1 := fun k hk => (HG7.out.own k hk).imp id (fun e => by
    have h2 : (w6.alloc (.cells #[.int .i64 v] 2)).heap.size = w6.heap.size + 1 := (by simp)
    omega)
  have h67 : Mods (fun k => k = vb ∨ (Value.slice va n vc).ownBlock = some k) w6 (w7.setCell ⟨vb, 0, none⟩ (.slice pa (n + 1) pc)) := ((HMA.out.mono fun _ _ f => f.elim).trans (HG7.out.mods.mono fun k _ e => Or.inr e)).trans (hms.mono fun k _ e => Or.inl e)
  have hM : Mods (fun k => k = vb ∨ k = fb ∨ (Value.slice ta n tc).ownBlock = some k ∨ (Value.slice sa n sc).ownBlock = some k ∨ (Value.slice va n vc).ownBlock = some k) w0 (w7.setCell ⟨vb, 0, none⟩ (.slice pa (n + 1) pc)) := (HM6.out.mono fun k _ e => by
    rcases e with e | e | e
    · exact Or.inr (Or.inl e)
    · exact Or.inr (Or.inr (Or.inl e))
    · exact Or.inr (Or.inr (Or.inr (Or.inl e)))).trans (h67.mono fun k _ e => by
    rcases e with e | e
    · exact Or.inl e
    · exact Or.inr (Or.inr (Or.inr (Or.inr e))))
  have hT := HT6.out
  have hS := HS6.out
  have hTlt : ∀ k, (Value.slice qa (n + 1) qc).ownBlock = some k → k < w6.heap.size := fun k hk => (hT.lt k hk).2
  have hSlt : ∀ k, (Value.slice ra (n + 1) rc).ownBlock = some k → k < w6.heap.size := fun k hk => (hS.lt k hk).2
  have hw06 := HM6.out.size
  have hVlt : ∀ k, (Value.slice va n vc).ownBlock = some k → k < w0.heap.size := fun k hk => (H.out.va.lt k hk).2
  have hSlt0 : ∀ k, (Value.slice sa n sc).ownBlock = some k → k < w0.heap.size := fun k hk => (HCS.out.1.lt k hk).2
  have hTlt0 : ∀ k, (Value.slice ta n tc).ownBlock = some k → k < w0.heap.size := fun k hk => (H.out.ty.lt k hk).2
  have hTV : ∀ k, (Value.slice qa (n + 1) qc).ownBlock = some k → (Value.slice va n vc).ownBlock ≠ some k := fun k hk e => by
    rcases HTL.out.1 k hk with e2 | e2
    · exact (H.out.apt k e2).2.2.2 e
    · have := hVlt k e; omega
  have hSV : ∀ k, (Value.slice ra (n + 1) rc).ownBlock = some k → (Value.slice va n vc).ownBlock ≠ some k := fun k hk e => by
    rcases HSL.out.1 k hk with e2 | e2
    · exact (H.out.aps k e2).2.2 e
    · have h1 := hVlt k e
      have h2 := HTL.out.1
      have h3 : w0.heap.size ≤ w6.heap.size := hw06
      have h4 := HW46.out
      omega
  have hV8 : (w7.setCell ⟨vb, 0, none⟩ (.slice pa (n + 1) pc)).ownsRow W.heap.size 2 1 (.slice pa (n + 1) pc) (n + 1) (vals.map (.int .i64) ++ [.int .i64 v]) := hms.ownsRow HOW.out (fun k hk e => by
    rcases hvl k hk with e2 | e2
    · exact (H.out.apv k e2).2 e
    · have h1 := HV6.out.lt
      have e : k = vb := e
      omega)
  have hT8 := h67.ownsRow hT (fun k hk e => by
    rcases e with e | e
    · exact (HTL.out.2 k hk).2 e
    · exact hTV k hk e)
  have hS8 := h67.ownsRow hS (fun k hk e => by
    rcases e with e | e
    · exact (HSL.out.2 k hk).2.1 e
    · exact hSV k hk e)
  have hln : (l ++ [({ code := x.code, dst := (n : Int), a := x.a, b := x.b, c := x.c, n := x.n, op := x.op, label := x.label, name := x.name, args := x.args } : Stp)]).length = n + 1 := by rw [List.length_append, List.length_singleton, ← HN.out]
  refine ⟨.slice qa (n + 1) qc, .slice ra (n + 1) rc, .slice pa (n + 1) pc, rfl, ?_⟩
  refine ⟨HF6.out.mods h67 (fun e => ?_), HF7.out.set 0 _, ?_, ⟨_, by rw [hln]; exact hS8, ?_⟩, ?_, fun k hk => ?_, fun k hk => ?_, fun k hk => ?_, fun y hy => ?_, H.out.ne, H.out.lo, ?_⟩
  · rcases e with e | e
    · exact H.out.ne e
    · exact (H.out.apv fb e).1 rfl
  · rw [hln, List.replicate_succ']
    exact hT8
  · have hg := HCS.out.2.grow HCS.out.1.1 ({ code := x.code, dst := (n : Int), a := x.a, b := x.b, c := x.c, n := x.n, op := x.op, label := x.label, name := x.name, args := x.args } : Stp)
    exact hg
  · rw [hln, List.map_append]
    exact hV8
  · refine ⟨(HTL.out.2 k hk).1, (HTL.out.2 k hk).2, fun e => (HSL.out.2 k e).2.2 hk, fun e => ?_⟩
    rcases hvl k e with e2 | e2
    · exact hTV k hk e2
    · have := hTlt k hk; omega
  · refine ⟨(HSL.out.2 k hk).1, (HSL.out.2 k hk).2.1, fun e => ?_⟩
    rcases hvl k e with e2 | e2
    · exact hSV k hk e2
    · have := hSlt k hk; omega
  · rcases hvl k hk with e2 | e2
    · exact H.out.apv k e2
    · have h1 := HV6.out.lt
      have h2 := HF6.out.lt
      exact ⟨by omega, by omega⟩
  · rcases List.mem_append.1 hy with hy | hy
    · exact H.out.args y hy
    · rw [List.mem_singleton] at hy
      rw [hy]
      exact hx
  · refine H.out.mods.trans' hM (fun k e hk => ?_)
    rcases e with e | e | e | e | e
    · have := H.out.lo; omega
    · have := H.out.lo; omega
    · have := (H.out.ty.lt k e).1; omega
    · have := (HCS.out.1.lt k e).1; omega
    · have := (H.out.va.lt k e).1; omega
end Go.Proofs.YtoajcbfejplfbaaDoor.MidP

/- The law's code: steps as the program's, and as the document's. Printed by mkrslaw.py. Conditions: the steps lie. -/
import Derived.Test.YtoajcbfejplfbaaDoorRsEnd
import Derived.Test.YtoajcbfejplfbaaDoorFoldRw
import Derived.Test.YtoajcbfejplfbaaDoorStepApp
namespace Go.Proofs.YtoajcbfejplfbaaDoor.MidP
open Go.RowKit Go.Proofs.YtoajcbfejplfbaaDoor.Wo Go.Maps Go.Proofs.YtoajcbfejplfbaaDoor.TreeP
set_option linter.unusedVariables false
set_option linter.unusedSimpArgs false
def smallS (s : Stp) : Bool := decide (s.args.length ≤ 20) && decide (s.op.length ≤ 20)
def smallF (F : Fm) : Bool := decide (F.steps.length ≤ 60) && decide (F.types.length ≤ 40) && F.steps.all smallS
def smallB (L : List Fm) : Bool := decide (L.length ≤ 15) && L.all smallF
theorem small_parts {L : List Fm} (h : smallB L = true) : L.length ≤ 15 ∧ ∀ F ∈ L, F.steps.length ≤ 60 ∧ F.types.length ≤ 40 ∧ ∀ s ∈ F.steps, s.args.length ≤ 20 ∧ s.op.length ≤ 20 := by
  unfold smallB smallF smallS at h
  simp only [Bool.and_eq_true, decide_eq_true_eq, List.all_eq_true] at h
  exact ⟨h.1, fun F hF => ⟨(h.2 F hF).1.1, (h.2 F hF).1.2, fun s hs => (h.2 F hF).2 s hs⟩⟩
theorem all_takeF {α : Type} {p : α → Bool} {l : List α} {i : Nat} {x : α} (h : (l.take i).all p = true) (hx : l[i]? = some x) (hp : p x = true) : (l.take (i + 1)).all p = true := by
  rw [List.take_add_one, hx, List.all_append, h]
  simp [hp]
theorem all_fails {α : Type} {p : α → Bool} {l : List α} {i : Nat} {x : α} (hx : l[i]? = some x) (hp : p x = false) : l.all p = false := by
  rw [List.all_eq_false]
  exact ⟨x, List.mem_of_getElem? hx, by rw [hp]; decide⟩
def fmL (F : Fm) (tv sv : Value) : List Value := [str F.name, .int .i64 F.params, tv, sv]
def RelF (W : World) (S : Nat → Prop) (cs : List Value) (l : List Fm) : Prop := ∀ (i : Nat) (x : Fm), l[i]? = some x → ∃ tv sv, (∀ k u, (fmL x tv sv)[k]? = some u → cs[i * 4 + k]? = some u) ∧ IntsAt W S tv x.types ∧ StpsAt W S sv x.steps
theorem RelF.mods {W W' : World} {S T : Nat → Prop} {cs : List Value} {l : List Fm} (h : RelF W S cs l) (hm : Mods S W W') (hT : ∀ k, k < W.heap.size → T k → S k) : RelF W' T cs l := fun i x hx => by
  obtain ⟨tv, sv, h1, h2, h3⟩ := h i x hx
  exact ⟨tv, sv, h1, h2.mods hm hT, h3.mods hm hT⟩
theorem RelF.grow {W : World} {S : Nat → Prop} {cs : List Value} {l : List Fm} (h : RelF W S cs l) (hl : cs.length = l.length * 4) {x : Fm} {tv sv : Value} (hx : IntsAt W S tv x.types) (hx2 : StpsAt W S sv x.steps) : RelF W S (cs ++ fmL x tv sv) (l ++ [x]) := fun i y hy => by
  rcases Nat.lt_or_ge i l.length with hi | hi
  · rw [List.getElem?_append_left hi] at hy
    obtain ⟨bv, dv, h1, h2, h3⟩ := h i y hy
    refine ⟨bv, dv, fun k u hk => ?_, h2, h3⟩
    have hk10 : k < 4 := (List.getElem?_eq_some_iff.1 hk).1
    rw [List.getElem?_append_left (by omega)]
    exact h1 k u hk
  · rw [List.getElem?_append_right hi] at hy
    obtain ⟨hi2, hy⟩ := List.getElem?_eq_some_iff.1 hy
    simp only [List.length_singleton] at hi2
    obtain rfl : i = l.length := by omega
    simp only [Nat.sub_self, List.getElem_cons_zero] at hy
    subst hy
    refine ⟨tv, sv, fun k u hk => ?_, hx, hx2⟩
    rw [List.getElem?_append_right (by omega), show l.length * 4 + k - cs.length = k by omega]
    exact hk
theorem fm_one (x : Fm) (ta sa : Option Addr) (tn tc sn sc : Nat) : ∀ u ∈ fmL x (.slice ta tn tc) (.slice sa sn sc), u.oneCell' = true := by
  intro u hu
  unfold fmL at hu
  simp only [List.mem_cons, List.not_mem_nil, or_false] at hu
  rcases hu with rfl | rfl | rfl | rfl <;> rfl
theorem stp_one (x : Stp) (aa : Option Addr) (n c : Nat) : ∀ u ∈ stpL x (.slice aa n c), u.oneCell' = true := by
  intro u hu
  unfold stpL at hu
  simp only [List.mem_cons, List.not_mem_nil, or_false] at hu
  rcases hu with rfl | rfl | rfl | rfl | rfl | rfl | rfl | rfl | rfl | rfl <;> rfl
theorem row_new (W : World) (cs : List Value) (e : TypeId) : ∀ j u, cs[j]? = some u → (W.alloc (.cells cs.toArray e)).cell? ((⟨W.heap.size, 0, none⟩ : Addr).add j) = some u := by
  intro j u hj
  rw [add_plain, Nat.zero_add]
  exact (Blk.new W cs.toArray e).cell (by simpa using hj)
end Go.Proofs.YtoajcbfejplfbaaDoor.MidP
namespace Go.Proofs.YtoajcbfejplfbaaDoor.MidP.R
open Go.RowKit Go.Proofs.YtoajcbfejplfbaaDoor.Wo Go.Maps Go.Proofs.YtoajcbfejplfbaaDoor.TreeP Go.Proofs.YtoajcbfejplfbaaDoor.MidP
set_option linter.unusedVariables false
set_option linter.unusedSimpArgs false
/-- Steps in a row of their own; what they are handed lies apart from S. -/
def StpG (W : World) (base : Nat) (S : Nat → Prop) (v : Value) (l : List Stp) : Prop := ∃ cs, W.ownsRow base 65 10 v l.length cs ∧ RelS W S cs l
theorem StpG.none_ (W : World) (base : Nat) (S : Nat → Prop) : StpG W base S (.slice none 0 0) [] := ⟨[], World.ownsRow_nil _ _ _ _, fun i x hx => by simp at hx⟩
theorem StpG.mods {W W' : World} {S T : Nat → Prop} {base : Nat} {v : Value} {l : List Stp} (h : StpG W base S v l) (hm : Mods T W W') (hT : ∀ k, T k → S k ∧ k < base) : StpG W' base S v l := by
  obtain ⟨cs, h1, h2⟩ := h
  exact ⟨cs, hm.ownsRow h1 (fun k hk ht => by have := (h1.lt k hk).1; have := (hT k ht).2; omega), h2.mods (hm.mono fun k _ ht => (hT k ht).1) (fun _ _ k => k)⟩
theorem StpG.grow {w4 w5 : World} {S : Nat → Prop} {base : Nat} {v v' : Value} {l : List Stp} {cs : List Value} {x : Stp} {av : Value} (h1 : w4.ownsRow base 65 10 v l.length cs) (h2 : RelS w4 S cs l) (hb : ∀ k, base ≤ k → S k) (hx : IntsAt w4 S av x.args)
    (hown : w5.ownsRow base 65 10 v' (l.length + 1) (cs ++ stpL x av)) (hg : w4.grownBy w5 v.ownBlock) : StpG w5 base S v' (l ++ [x]) := by
  have hm : Mods S w4 w5 := (Mods.of_grownBy (S := fun k => v.ownBlock = some k) hg (fun k hk _ => hk)).mono fun k _ e => hb k (h1.lt k e).1
  exact ⟨cs ++ stpL x av, by simpa using hown, (h2.mods hm (fun _ _ k => k)).grow h1.1 (hx.mods hm (fun _ _ k => k))⟩
/-- They are steps that are only read. -/
theorem StpG.at_ {W : World} {S T : Nat → Prop} {base : Nat} {v : Value} {l : List Stp} (h : StpG W base S v l) (hT : ∀ k, T k → S k) (hb : ∀ k, T k → k < base) : StpsAt W T v l := by
  obtain ⟨cs, h1, h2⟩ := h
  rcases h1.2 with ⟨hv, h0⟩ | ⟨g, cap, cur, hv, h3, h4, h5, h6, h7, h8⟩
  · obtain rfl : l = [] := List.eq_nil_of_length_eq_zero h0
    exact ⟨none, 0, hv, Nat.zero_le _, Nat.zero_le _, fun _ => rfl, fun i s hs => by simp at hs⟩
  · refine ⟨_, cap, hv, h5, h6, (fun h => by cases h), fun i s hs => ?_⟩
    obtain ⟨av, k1, k2⟩ := h2 i s hs
    have hc : ∀ k u, (stpL s av)[k]? = some u → W.cell? ⟨g, 0 + i * 10 + k, none⟩ = some u := fun k u hk => by
      have := h1.cells (g := g) (by rw [hv]; rfl) (i * 10 + k) u (k1 k u hk)
      rw [add_plain] at this
      rw [Nat.add_assoc]
      exact this
    have hg := (h1.lt g (by rw [hv]; rfl)).1
    exact ⟨g, 0, av, rfl, (fun e => by have := hb g e; omega), ⟨hc 0 _ rfl, hc 1 _ rfl, hc 2 _ rfl, hc 3 _ rfl, hc 4 _ rfl, hc 5 _ rfl, hc 6 _ rfl, hc 7 _ rfl, hc 8 _ rfl, hc 9 _ rfl⟩, k2.mods (Mods.refl _ _) (fun k _ e => hT k e)⟩
/-- Functions in a row of their own. -/
def OutG (W : World) (base : Nat) (v : Value) (l : List Fm) : Prop := ∃ cs, W.ownsRow base 64 4 v l.length cs ∧ RelF W (fun k => v.ownBlock = some k) cs l
theorem OutG.none_ (W : World) (base : Nat) : OutG W base (.slice none 0 0) [] := ⟨[], World.ownsRow_nil _ _ _ _, (fun i x hx => by simp at hx)⟩
theorem OutG.mods {W W' : World} {base : Nat} {v : Value} {l : List Fm} (h : OutG W base v l) (hm : Mods None W W') : OutG W' base v l := by
  obtain ⟨cs, h1, h2⟩ := h
  exact ⟨cs, hm.ownsRow h1 (fun k hk f => f), h2.mods (hm.mono fun _ _ f => f.elim) (fun _ _ k => k)⟩
theorem OutG.at_ {W : World} {base : Nat} {v : Value} {l : List Fm} (h : OutG W base v l) : FmsAt W None v l := by
  obtain ⟨cs, h1, h2⟩ := h
  rcases h1.2 with ⟨hv, h0⟩ | ⟨g, cap, cur, hv, h3, h4, h5, h6, h7, h8⟩
  · obtain rfl : l = [] := List.eq_nil_of_length_eq_zero h0
    exact ⟨none, 0, hv, Nat.zero_le _, Nat.zero_le _, fun _ => rfl, fun i s hs => by simp at hs⟩
  · refine ⟨_, cap, hv, h5, h6, (fun h => by cases h), fun i s hs => ?_⟩
    obtain ⟨tv, sv, k1, k2, k3⟩ := h2 i s hs
    have hc : ∀ k u, (fmL s tv sv)[k]? = some u → W.cell? ⟨g, 0 + i * 4 + k, none⟩ = some u := fun k u hk => by
      have := h1.cells (g := g) (by rw [hv]; rfl) (i * 4 + k) u (k1 k u hk)
      rw [add_plain] at this
      rw [Nat.add_assoc]
      exact this
    exact ⟨g, 0, tv, sv, rfl, (fun f => f), hc 0 _ rfl, hc 1 _ rfl, hc 2 _ rfl, hc 3 _ rfl, k2.mods (Mods.refl _ _) (fun k _ f => f.elim), k3.mods (Mods.refl _ _) (fun k _ f => f.elim)⟩
theorem OutG.grow {w4 w5 : World} {base : Nat} {v v' : Value} {l : List Fm} {cs : List Value} {x : Fm} {tv sv : Value} (h1 : w4.ownsRow base 64 4 v l.length cs) (h2 : RelF w4 (fun k => v.ownBlock = some k) cs l) (hx : IntsAt w4 (fun k => v.ownBlock = some k) tv x.types) (hx2 : StpsAt w4 (fun k => v.ownBlock = some k) sv x.steps)
    (hown : w5.ownsRow base 64 4 v' (l.length + 1) (cs ++ fmL x tv sv)) (hg : w4.grownBy w5 v.ownBlock) (hloc : v'.ownBlock = v.ownBlock ∨ v'.ownBlock = some w4.heap.size) : OutG w5 base v' (l ++ [x]) := by
  have hm : Mods (fun k => v.ownBlock = some k) w4 w5 := Mods.of_grownBy (S := fun k => v.ownBlock = some k) hg (fun k hk _ => hk)
  have hT : ∀ k, k < w4.heap.size → v'.ownBlock = some k → v.ownBlock = some k := fun k hk e => by
    rcases hloc with hl | hl
    · rw [← hl]; exact e
    · rw [hl] at e
      have := Option.some.inj e
      omega
  exact ⟨cs ++ fmL x tv sv, by simpa using hown, (h2.mods hm hT).grow h1.1 (hx.mods hm hT) (hx2.mods hm hT)⟩
def zeroStp7 : Value := .agg #[.int .i64 0, .int .i64 0, .int .i64 0, .int .i64 0, .int .i64 0, .int .i64 0, .string ⟨#[]⟩, .int .i64 0, .string ⟨#[]⟩, .slice none 0 0]
theorem stp7_info : (Tryd.prog.info? 65).map (fun i => (i.zero, i.size, i.bytes)) = some (some zeroStp7, 10, 112) := by kernel_rfl
theorem fn7_info : (Tryd.prog.info? 64).map (fun i => (i.zero, i.size, i.bytes)) = some (some zeroFm, 4, 72) := by kernel_rfl
/-- What code answers. -/
def CodeP (L : List Fm) (lv : Value) (W : World) (R : Bool) (e : Ending) (w : World) : Prop := Mods None W w ∧ if R = true then (∃ cb wv, e = .returned (.tuple #[.pointer (some ⟨cb, 0, none⟩), wv, .bool true]) ∧ w.cell? ⟨cb, 0, none⟩ = some lv ∧ FmsAt w None wv L) else e = .returned (.tuple #[.pointer none, .slice none 0 0, .bool false])
theorem code_no {L : List Fm} {lv : Value} {W w : World} {R : Bool} (hR : R = false) (hm : Mods None W w) : CodeP L lv W R (.returned (.tuple #[.pointer none, .slice none 0 0, .bool false])) w := ⟨hm, by rw [if_neg (by rw [hR]; decide)]⟩
set_option maxRecDepth 100000 in
set_option maxHeartbeats 4000000 in
theorem code_any (L : List Fm) (lv : Value) (W : World) (hL : FmsAt W None lv L) :
    Calls Tryd.prog 6 #[lv] W (CodeP L lv W (smallB L)) := by
  have HL := Lib.hid (fun (w : World) (hm : Mods None W w) => hL.mods hm (fun _ _ k => k))
  have HL0 := Lib.hid hL
  obtain ⟨la, lc, rfl, hlc1, hlc2, -⟩ := hL.form
  obtain ⟨n, hn⟩ : ∃ n, n = L.length := ⟨_, rfl⟩
  obtain ⟨R, hR⟩ : ∃ R, R = smallB L := ⟨_, rfl⟩
  have HR := Lib.hid hR
  have HN := Lib.hid hn
  rw [← hn] at hlc1
  rw [← hn, ← hR]
  clear hn hL hR
  go_enter Tryd.func6, Tryd.ntmps6
  by_cases h15 : n ≤ 15
  rotate_left
  · have hg : (n : Int) > 15 := by omega
    have HF : Hid (R = false) := Lib.hid (by
      rw [HR.out]
      unfold smallB
      have : ¬ L.length ≤ 15 := by rw [← HN.out]; exact h15
      simp [this])
    clear h15
    go_wp2_with fail
    exact bodyPost_ret (v := .tuple #[.pointer none, .slice none 0 0, .bool false]) (by simp [results, Tryd.results6, go_sem]) rfl (code_no HF.out (by first | exact Mods.refl _ _ | exact (Mods.refl _ _).drew))
  · have hg : ¬ (n : Int) > 15 := by omega
    have HF : Hid (∀ (i : Nat) (F : Fm), L[i]? = some F → smallF F = false → R = false) := Lib.hid (fun i F h1 h2 => by
      rw [HR.out]
      unfold smallB
      rw [all_fails h1 h2]
      simp)
    have HT : Hid (L.all smallF = true → R = true) := Lib.hid (fun h => by
      rw [HR.out]
      unfold smallB
      have : L.length ≤ 15 := by rw [← HN.out]; exact h15
      simp [this, h])
    clear HR
    go_wp2_with fail
    go_loopw [5, 6, 7, 8, 9] (fun ov iv _ _ _ wr => ∃ (i : Nat) (oa : Option Addr) (oc : Nat), i ≤ n ∧ iv = .int .i64 (i : Int) ∧ ov = .slice oa i oc ∧ Hid ((L.take i).all smallF = true) ∧ Hid (OutG wr W.heap.size (.slice oa i oc) (L.take i)) ∧ Hid (Mods None W wr)) (fun _ iv _ _ _ _ => (n - intOf iv).toNat)
    case atStart => exact ⟨0, none, 0, Nat.zero_le _, rfl, rfl, Lib.hid rfl, Lib.hid (OutG.none_ _ _), Lib.hid (Mods.refl _ _)⟩
    case round =>
      obtain ⟨w0, rfl⟩ : ∃ w0 : World, w0 = wr := ⟨_, rfl⟩
      obtain ⟨i, oa, oc, hi, rfl, rfl, HA, HOG, HM⟩ := hrel
      by_cases hlt : i < n
      rotate_left
      · obtain rfl : i = n := by omega
        have hpi : ¬ (i : Int) < (i : Int) := by omega
        have HTT : Hid (R = true) := Lib.hid (HT.out (by have := HA.out; rw [HN.out, List.take_length] at this; exact this))
        have HOO := Lib.hid (HOG.out.at_)
        obtain ⟨W2, hW2⟩ : ∃ W2, W2 = w0.alloc (.cells #[.slice la i lc] 53) := ⟨_, rfl⟩
        have HM2 : Hid (Mods None w0 W2) := Lib.hid (by rw [hW2]; exact (Mods.refl _ _).alloc _)
        have HB2 : Hid (W2.cell? ⟨w0.heap.size, 0, none⟩ = some (.slice la i lc)) := Lib.hid (by rw [hW2]; exact (Blk.new w0 _ _).cell (i := 0) rfl)
        clear hlt
        go_wp2_with fail
        refine bodyPost_ret (v := .tuple #[.pointer (some ⟨w0.heap.size, 0, none⟩), .slice oa i oc, .bool true]) (by simp [results, Tryd.results6, go_sem]) rfl ?_
        rw [← hW2]
        unfold CodeP
        rw [if_pos HTT.out]
        refine ⟨HM.out.trans HM2.out, w0.heap.size, _, rfl, HB2.out, ?_⟩
        have h := HOO.out
        rw [HN.out, List.take_length, ← HN.out] at h
        exact h.mods HM2.out (fun _ _ k => k)
      · have hil : i < L.length := by rw [← HN.out]; exact hlt
        obtain ⟨F, hFi⟩ : ∃ F, L[i]? = some F := ⟨_, List.getElem?_eq_getElem hil⟩
        have hFe : L[i] = F := (List.getElem?_eq_some_iff.1 hFi).2
        obtain ⟨gs, os, ta, tc, sa, sc, hoe, y0, y1, y2, y3, hty0, hst0⟩ := HL0.out.get hil
        subst hoe
        rw [hFe] at y0 y1 y2 y3 hty0 hst0
        obtain ⟨tn, htn⟩ : ∃ tn, tn = F.types.length := ⟨_, rfl⟩
        obtain ⟨sn, hsn⟩ : ∃ sn, sn = F.steps.length := ⟨_, rfl⟩
        have hsc : sn ≤ sc := by
          obtain ⟨_, _, e1, e2, -⟩ := hst0.form
          obtain ⟨-, -, rfl⟩ := Value.slice.inj e1
          omega
        -- what is given lies in old blocks
        have HTY0 := Lib.hid (hty0.mods (Mods.refl None W) (fun k h1 h2 => (h2 h1).elim) (T := fun k => ¬ k < W.heap.size))
        have HST0 := Lib.hid (hst0.mods (Mods.refl None W) (fun k h1 h2 => (h2 h1).elim) (T := fun k => ¬ k < W.heap.size))
        have y0 := HM.out.cellOf y0 (fun f => f)
        have y1 := HM.out.cellOf y1 (fun f => f)
        have y2 := HM.out.cellOf y2 (fun f => f)
        have y3 := HM.out.cellOf y3 (fun f => f)
        rw [← htn] at y2
        rw [← hsn] at y3
        have hpi : (i : Int) < (n : Int) := by omega
        have HX := Lib.hid (And.intro hFi (And.intro htn hsn))
        have HTKF : Hid (L.take (i + 1) = L.take i ++ [F]) := Lib.hid (by rw [List.take_succ_eq_append_getElem hil, hFe])
        obtain ⟨W5, hW5⟩ : ∃ W5, W5 = w0.alloc (.cells #[str F.name, .int .i64 F.params, .slice ta tn tc, .slice sa sn sc] 35) := ⟨_, rfl⟩
        have hm5 : Mods None w0 W5 := by rw [hW5]; exact (Mods.refl _ _).alloc _
        have HB5 : Hid (Blk W5 w0.heap.size [str F.name, .int .i64 F.params, .slice ta tn tc, .slice sa sn sc] 35) := Lib.hid (by rw [hW5]; exact Blk.new w0 _ _)
        have hs5 : W5.heap.size = w0.heap.size + 1 := by rw [hW5]; simp
        have HM5 := Lib.hid (And.intro hm5 hs5)
        have b0 := HB5.out.cell (i := 0) rfl
        have b1 := HB5.out.cell (i := 1) rfl
        have b2 := HB5.out.cell (i := 2) rfl
        have b3 := HB5.out.cell (i := 3) rfl
        unfold str at y0 b0 hW5
        clear hFi hFe hil htn hsn hty0 hst0 hm5 hs5
        by_cases hs60 : sn ≤ 60
        rotate_left
        · have hsg : (sn : Int) > 60 := by omega
          have HFF : Hid (R = false) := Lib.hid (HF.out i F HX.out.1 (by
            unfold smallF
            have : ¬ F.steps.length ≤ 60 := by rw [← HX.out.2.2]; exact hs60
            simp [this]))
          clear hs60
          go_upto_region 8 with (fail)
          rw [← hW5]
          clear hW5
          go_wp2_with fail
          exact bodyPost_ret (v := .tuple #[.pointer none, .slice none 0 0, .bool false]) (by simp [results, Tryd.results6, go_sem]) rfl (code_no HFF.out (HM.out.trans HM5.out.1))
        have hsg : ¬ (sn : Int) > 60 := by omega
        by_cases ht40 : tn ≤ 40
        rotate_left
        · have htg : (tn : Int) > 40 := by omega
          have HFF : Hid (R = false) := Lib.hid (HF.out i F HX.out.1 (by
            unfold smallF
            have : ¬ F.types.length ≤ 40 := by rw [← HX.out.2.1]; exact ht40
            simp [this]))
          clear ht40
          go_upto_region 8 with (fail)
          rw [← hW5]
          clear hW5
          go_wp2_with fail
          exact bodyPost_ret (v := .tuple #[.pointer none, .slice none 0 0, .bool false]) (by simp [results, Tryd.results6, go_sem]) rfl (code_no HFF.out (HM.out.trans HM5.out.1))
        have htg : ¬ (tn : Int) > 40 := by omega
        obtain ⟨W6, hW6⟩ : ∃ W6, W6 = W5.alloc (.cells #[.string ⟨F.name.toArray⟩, .int .i64 F.params, .slice ta tn tc, .slice none 0 0] 64) := ⟨_, rfl⟩
        have hm6 : Mods None W5 W6 := by rw [hW6]; exact (Mods.refl _ _).alloc _
        have HB6 : Hid (Blk W6 W5.heap.size [.string ⟨F.name.toArray⟩, .int .i64 F.params, .slice ta tn tc, .slice none 0 0] 64) := Lib.hid (by rw [hW6]; exact Blk.new W5 _ _)
        have hs6 : W6.heap.size = W5.heap.size + 1 := by rw [hW6]; simp
        have HM6 := Lib.hid (And.intro (HM5.out.1.trans hm6) hs6)
        have HB56 := Lib.hid (HB5.out.mods hm6 (fun f => f))
        obtain ⟨xb, hxb⟩ : ∃ xb, xb = W5.heap.size := ⟨_, rfl⟩
        have HXB : Hid (xb = w0.heap.size + 1 ∧ W6.heap.size = xb + 1) := Lib.hid (by have := HM5.out.2; omega)
        rw [← hxb] at HB6
        go_upto_region 8 with (fail)
        rw [← hW5]
        clear hW5 y0 y1 y2 y3
        go_upto_region 11 with (fail)
        rw [← hW6, ← hxb]
        clear hW6 hxb hm6 hs6 b0 b1 b2 b3
        go_wp2_with fail
        go_loopw [9] (fun jv wr => ∃ (j : Nat) (sv : Value), j ≤ sn ∧ jv = .int .i64 (j : Int) ∧ Hid ((F.steps.take j).all smallS = true) ∧ Hid (StpG wr W6.heap.size (fun k => ¬ k < W.heap.size) sv (F.steps.take j)) ∧ Hid (Blk wr xb [.string ⟨F.name.toArray⟩, .int .i64 F.params, .slice ta tn tc, sv] 64) ∧ Hid (Blk wr w0.heap.size [str F.name, .int .i64 F.params, .slice ta tn tc, .slice sa sn sc] 35) ∧ Hid (Mods None w0 wr ∧ W6.heap.size ≤ wr.heap.size)) (fun jv _ => (sn - intOf jv).toNat)
        case atStart => exact ⟨0, _, Nat.zero_le _, rfl, Lib.hid rfl, Lib.hid (StpG.none_ _ _ _), HB6, HB56, Lib.hid ⟨HM6.out.1, Nat.le_refl _⟩⟩
        case round =>
          obtain ⟨w7, rfl⟩ : ∃ w7 : World, w7 = wr := ⟨_, rfl⟩
          obtain ⟨j, sv, hj, rfl, HAS, HSG, HBX, HBF, HM7⟩ := hrel
          obtain ⟨va, vc, rfl⟩ : ∃ va vc, sv = .slice va j vc := by
            obtain ⟨cs, h1, -⟩ := HSG.out
            have hl : (F.steps.take j).length = j := by rw [List.length_take]; have := HX.out.2.2; omega
            rw [hl] at h1
            exact sl_form h1
          have f3 := HBF.out.cell (i := 3) rfl
          have x3 := HBX.out.cell (i := 3) rfl
          have HMW7 := Lib.hid (HM.out.trans HM7.out.1)
          by_cases hjt : j < sn
          · have hjl : j < F.steps.length := by rw [← HX.out.2.2]; exact hjt
            obtain ⟨y, hy⟩ : ∃ y, F.steps[j]? = some y := ⟨_, List.getElem?_eq_getElem hjl⟩
            have hye : F.steps[j] = y := (List.getElem?_eq_some_iff.1 hy).2
            obtain ⟨yg, yo, ya, yc, he, hcs, hya⟩ := (HST0.out.mods (HMW7.out.mono fun _ _ f => f.elim) (fun _ _ k => k) (T := fun k => ¬ k < W.heap.size)).get hjl
            subst he
            rw [hye] at hcs hya
            obtain ⟨c0, c1, c2, c3, c4, c5, c6, c7, c8, c9⟩ := hcs
            obtain ⟨an, han⟩ : ∃ an, an = y.args.length := ⟨_, rfl⟩
            rw [← han] at c9
            have hjj : (j : Int) < (sn : Int) := by omega
            have HY := Lib.hid (And.intro hy han)
            have HYA := Lib.hid hya
            have HTKS : Hid (F.steps.take (j + 1) = F.steps.take j ++ [y]) := Lib.hid (by rw [List.take_succ_eq_append_getElem hjl, hye])
            unfold str at c6 c8
            obtain ⟨opn, hopn⟩ : ∃ opn, opn = y.op.length := ⟨_, rfl⟩
            have hops : ((⟨y.op.toArray⟩ : ByteArray)).size = opn := by rw [hopn]; simp [ByteArray.size]
            clear hy hye hjl han hya
            by_cases ha20 : an ≤ 20
            rotate_left
            · have hag : (an : Int) > 20 := by omega
              have HFF : Hid (R = false) := Lib.hid (HF.out i F HX.out.1 (by
                unfold smallF
                have : smallS y = false := by
                  unfold smallS
                  have : ¬ y.args.length ≤ 20 := by rw [← HY.out.2]; exact ha20
                  simp [this]
                rw [all_fails HY.out.1 this]
                simp))
              clear ha20 hopn
              go_wp2_with fail
              exact bodyPost_ret (v := .tuple #[.pointer none, .slice none 0 0, .bool false]) (by simp [results, Tryd.results6, go_sem]) rfl (code_no HFF.out HMW7.out)
            have hag : ¬ (an : Int) > 20 := by omega
            by_cases ho20 : opn ≤ 20
            rotate_left
            · have hog : (opn : Int) > 20 := by omega
              have HFF : Hid (R = false) := Lib.hid (HF.out i F HX.out.1 (by
                unfold smallF
                have : smallS y = false := by
                  unfold smallS
                  have : ¬ y.op.length ≤ 20 := by rw [← hopn]; exact ho20
                  simp [this]
                rw [all_fails HY.out.1 this]
                simp))
              have hog2 : (y.op.length : Int) > 20 := by omega
              clear ho20 hopn
              go_wp2_with fail
              exact bodyPost_ret (v := .tuple #[.pointer none, .slice none 0 0, .bool false]) (by simp [results, Tryd.results6, go_sem]) rfl (code_no HFF.out HMW7.out)
            have hog : ¬ (y.op.length : Int) > 20 := by omega
            have HSM : Hid (smallS y = true) := Lib.hid (by
              unfold smallS
              have h1 : y.args.length ≤ 20 := by rw [← HY.out.2]; exact ha20
              have h2 : y.op.length ≤ 20 := by rw [← hopn]; exact ho20
              simp [h1, h2])
            clear hopn hops ho20
            obtain ⟨i0, hi0, hz0, hz1, hz2⟩ := info_parts stp7_info
            have HI := Lib.hid (And.intro hi0 (And.intro hz0 (And.intro hz1 hz2)))
            obtain ⟨cs, hcs1, hcs2⟩ := HSG.out
            have hl : (F.steps.take j).length = j := by rw [List.length_take]; have := HX.out.2.2; omega
            rw [hl] at hcs1
            have HCL := Lib.hid hcs1.lt
            have hnew := Lib.hid (row_new w7 (stpL y (.slice ya an yc)) 65)
            have hone := Lib.hid (stp_one y ya an yc)
            have HMA : Hid (Mods None w7 ((w7.alloc (.cells (stpL y (.slice ya an yc)).toArray 65)).drew)) := Lib.hid ((Mods.refl _ _).alloc _).drew
            have HOA := Lib.hid (HMA.out.ownsRow hcs1 (fun k hk f => f))
            have HRA := Lib.hid (hcs2.mods (HMA.out.mono fun _ _ f => f.elim) (fun _ _ k => k) (T := fun k => ¬ k < W.heap.size))
            have HBXA := Lib.hid (HBX.out.mods HMA.out (fun f => f))
            have HBFA := Lib.hid (HBF.out.mods HMA.out (fun f => f))
            have HBS : Hid (W6.heap.size ≤ ((w7.alloc (.cells (stpL y (.slice ya an yc)).toArray 65)).drew).heap.size) := Lib.hid (by have h1 := HM7.out.2; have h5 := HMA.out.size; omega)
            have HLJ := Lib.hid hl
            have hj60 : j < 60 := by omega
            clear hcs1 hcs2 hi0 hz0 hz1 hz2 hl
            unfold stpL str at hnew hone HMA HOA HRA HBXA HBFA HBS
            have x3a := HBXA.out.cell (i := 3) rfl
            go_wp2_with fail
            go_region_law (refine step_append_at rfl (.tmp 66) (.tmp 72) 62 rfl W6.heap.size 65 i0 _ 10 112 Tryd.underlying62 HI.out.1 HI.out.2.1 HI.out.2.2.1 HI.out.2.2.2 rfl (by decide) (.slice va j vc) j cs (by simp [Act.eval, Act.put]) HOA.out ⟨w7.heap.size, 0, none⟩ 1 1 [.int .i64 y.code, .int .i64 y.dst, .int .i64 y.a, .int .i64 y.b, .int .i64 y.c, .int .i64 y.n, .string ⟨y.op.toArray⟩, .int .i64 y.label, .string ⟨y.name.toArray⟩, .slice ya an yc] (by simp [Act.eval, Act.put]) rfl hnew.out hone.out (by unfold maxLen; omega) (by omega) HBS.out ?_; intro v' w11 hown hgrow hloc; have HOW := Lib.hid hown; have HGR := Lib.hid (And.intro hgrow hloc); have HBX11 := Lib.hid (HBXA.out.mods (Mods.of_grownBy (S := fun k => (Value.slice va j vc).ownBlock = some k) hgrow (fun k hk _ => hk)) (fun e => by have h1 := (HCL.out _ e).1; have h2 := HXB.out; omega)); have HBF11 := Lib.hid (HBFA.out.mods (Mods.of_grownBy (S := fun k => (Value.slice va j vc).ownBlock = some k) hgrow (fun k hk _ => hk)) (fun e => by have h1 := (HCL.out _ e).1; have h2 := HXB.out; omega)); have b1 := HBX11.out.cell (i := 3) rfl; have z1 := HBX11.out.free 3; clear hown hgrow hloc; obtain ⟨qa, qc, rfl⟩ := sl_form HOW.out)
            all_goals
              go_wp2_with fail
              refine ⟨⟨j + 1, .slice qa (j + 1) qc, by omega, by go_num, Lib.hid (all_takeF HAS.out HY.out.1 HSM.out), Lib.hid ?_, Lib.hid (HBX11.out.set 3 _), Lib.hid (HBF11.out.mods (mods_put _ _ _ _) (by have h2 := HXB.out; omega)), Lib.hid ?_⟩, by simp [intOf]; omega⟩
              · rw [HTKS.out]
                have hgr : StpG w11 W6.heap.size (fun k => ¬ k < W.heap.size) (.slice qa (j + 1) qc) (F.steps.take j ++ [y]) := StpG.grow (x := y) (av := .slice ya an yc) (by rw [HLJ.out]; exact HOA.out) HRA.out (fun k hk hl => by have h1 := HM6.out.1.size; have h2 := HM.out.size; omega) (by have h := HYA.out.mods (HMA.out.mono fun _ _ f => f.elim) (fun _ _ k => k) (T := fun k => ¬ k < W.heap.size); rw [← HY.out.2] at h; exact h) (by rw [HLJ.out]; exact HOW.out) HGR.out.1
                exact hgr.mods (T := (· = xb)) (mods_put _ _ _ _) (fun k hk => by have h1 := HXB.out; have h2 := HM.out.size; rw [hk]; exact ⟨by omega, by omega⟩)
              · have hmo : Mods (fun k => (Value.slice va j vc).ownBlock = some k) (w7.alloc (.cells #[.int .i64 y.code, .int .i64 y.dst, .int .i64 y.a, .int .i64 y.b, .int .i64 y.c, .int .i64 y.n, .string ⟨y.op.toArray⟩, .int .i64 y.label, .string ⟨y.name.toArray⟩, .slice ya an yc] 65)).drew w11 := Mods.of_grownBy HGR.out.1 (fun k hk _ => hk)
                have hms : Mods (· = xb) w11 (w11.setCell ⟨xb, 3, none⟩ (.slice qa (j + 1) qc)) := mods_put _ _ _ _
                have hall := ((HM7.out.1.trans HMA.out).trans' hmo (fun k hk hl => by have h1 := (HCL.out k hk).1; have h2 := HXB.out; omega)).trans' hms (fun k hk hl => by have h2 := HXB.out; omega)
                refine ⟨hall, ?_⟩
                have h1 := HM7.out.2
                have h2 := HMA.out.size
                have h3 := hmo.size
                have h4 := hms.size
                omega
          · obtain rfl : j = sn := by omega
            have hjj : ¬ (j : Int) < (j : Int) := by omega
            have HALLS : Hid ((L.take (i + 1)).all smallF = true) := Lib.hid (all_takeF HA.out HX.out.1 (by
              unfold smallF
              have h := HAS.out
              rw [HX.out.2.2, List.take_length] at h
              have h1 : F.steps.length ≤ 60 := by rw [← HX.out.2.2]; exact hs60
              have h2 : F.types.length ≤ 40 := by rw [← HX.out.2.1]; exact ht40
              rw [h]
              simp [h1, h2]))
            obtain ⟨i0, hi0, hz0, hz1, hz2⟩ := info_parts fn7_info
            have HI := Lib.hid (And.intro hi0 (And.intro hz0 (And.intro hz1 hz2)))
            have x0 := HBX.out.cell (i := 0) rfl
            have x1 := HBX.out.cell (i := 1) rfl
            have x2 := HBX.out.cell (i := 2) rfl
            obtain ⟨cs, hcs1, hcs2⟩ := (HOG.out.mods HM7.out.1)
            have hl : (L.take i).length = i := by rw [List.length_take]; have := HN.out; omega
            rw [hl] at hcs1
            have HLI := Lib.hid hl
            have hnew := Lib.hid (row_new w7 (fmL F (.slice ta tn tc) (.slice va j vc)) 64)
            have hone := Lib.hid (fm_one F ta va tn tc j vc)
            have HMA : Hid (Mods None w7 (w7.alloc (.cells (fmL F (.slice ta tn tc) (.slice va j vc)).toArray 64))) := Lib.hid ((Mods.refl _ _).alloc _)
            have HOA := Lib.hid (HMA.out.ownsRow hcs1 (fun k hk f => f))
            have HRA := Lib.hid (hcs2.mods (HMA.out.mono fun _ _ f => f.elim) (fun _ _ k => k) (T := fun k => (Value.slice oa i oc).ownBlock = some k))
            have HCL2 := Lib.hid hcs1.lt
            have HSG2 := Lib.hid (HSG.out.mods (T := None) HMA.out (fun _ f => f.elim))
            have HOLD : Hid (∀ k, (Value.slice oa i oc).ownBlock = some k → W.heap.size ≤ k ∧ k < W6.heap.size) := Lib.hid (fun k hk => by
              obtain ⟨cs', h1, -⟩ := HOG.out
              have h2 := h1.lt k hk
              have h3 := HXB.out
              omega)
            have HTY2 := Lib.hid (HTY0.out.mods (HMW7.out.trans HMA.out |>.mono fun _ _ f => f.elim) (fun _ _ k => k) (T := fun k => ¬ k < W.heap.size))
            have HBS : Hid (W.heap.size ≤ (w7.alloc (.cells (fmL F (.slice ta tn tc) (.slice va j vc)).toArray 64)).heap.size) := Lib.hid (by have h1 := HMW7.out.size; have h5 := HMA.out.size; omega)
            clear hcs1 hcs2 hi0 hz0 hz1 hz2 hl
            unfold fmL str at hnew hone HMA HOA HRA HSG2 HTY2 HBS
            go_wp2_with (at_builtin; refine wpList_append_own_at _ rfl _ _ 25 rfl W.heap.size 64 i0 _ 4 72 Tryd.underlying25 HI.out.1 HI.out.2.1 HI.out.2.2.1 HI.out.2.2.2 rfl (by decide) (.slice oa i oc) i cs rfl HOA.out ⟨w7.heap.size, 0, none⟩ 1 1 [.string ⟨F.name.toArray⟩, .int .i64 F.params, .slice ta tn tc, .slice va j vc] rfl rfl hnew.out hone.out (by unfold maxLen; omega) (by omega) HBS.out ?_; intro v' w11 hown hgrow hnil hloc; have HOW := Lib.hid hown; have HGR := Lib.hid (And.intro hgrow hloc); clear hown hgrow hnil hloc; refine Hid.out ?_)
            refine Lib.hid ?_
            obtain ⟨qa, qc, rfl⟩ := sl_form HOW.out
            go_wp2_with fail
            refine ⟨⟨i + 1, qa, qc, by omega, by go_num, rfl, HALLS, Lib.hid ?_, Lib.hid ?_⟩, by simp [intOf]; omega⟩
            · rw [HTKF.out]
              refine OutG.grow (x := F) (tv := .slice ta tn tc) (sv := .slice va j vc) (by rw [HLI.out]; exact HOA.out) HRA.out ?_ ?_ (by rw [HLI.out]; exact HOW.out) HGR.out.1 HGR.out.2
              · have h := HTY2.out.mods (Mods.refl _ _) (fun k _ e => by have := (HOLD.out k e).1; omega) (T := fun k => (Value.slice oa i oc).ownBlock = some k)
                rw [← HX.out.2.1] at h
                exact h
              · have h := HSG2.out.at_ (T := fun k => (Value.slice oa i oc).ownBlock = some k) (fun k e => by have := (HOLD.out k e).1; omega) (fun k e => (HOLD.out k e).2)
                rw [HX.out.2.2, List.take_length, ← HX.out.2.2] at h
                exact h
            · have hmo : Mods (fun k => (Value.slice oa i oc).ownBlock = some k) (w7.alloc (.cells #[.string ⟨F.name.toArray⟩, .int .i64 F.params, .slice ta tn tc, .slice va j vc] 64)) w11 := Mods.of_grownBy HGR.out.1 (fun k hk _ => hk)
              exact (HMW7.out.trans HMA.out).trans' hmo (fun k hk hl => by have := (HCL2.out k hk).1; omega)
end Go.Proofs.YtoajcbfejplfbaaDoor.MidP.R

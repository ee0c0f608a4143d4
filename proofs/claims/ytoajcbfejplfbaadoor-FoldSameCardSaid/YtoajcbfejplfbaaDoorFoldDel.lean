/- slices' search over steps, at the closure of what is reached. Printed by mkfidx.py. Conditions: what it reads lies. Whether a label is spare: nobody jumps to it. Conditions: the step and the map lie. slices.DeleteFunc over steps, at the closure of what is reached. Conditions: what is asked lies. -/
import Derived.Test.YtoajcbfejplfbaaDoorMidFun
import Derived.Test.YtoajcbfejplfbaaDoorFoldDead
import Derived.Test.YtoajcbfejplfbaaDoorStepCopy
namespace Go.Proofs.YtoajcbfejplfbaaDoor.MidP
open Go.RowKit Go.Proofs.YtoajcbfejplfbaaDoor.Wo Go.Maps Go.Proofs.YtoajcbfejplfbaaDoor.TreeP
set_option linter.unusedVariables false
set_option linter.unusedSimpArgs false
set_option maxRecDepth 100000 in
set_option maxHeartbeats 1000000 in
theorem index_reached (L : List Stp) (v : Value) (q : Nat) (p : Stp → Bool) (S : Nat → Prop) (W : World) (hL : StpsAt W S v L)
    (hK : ∀ (i : Nat) (hi : i < L.length) (w : World) (fv : Value), Mods None W w → StpV w S L[i] fv → Calls Tryd.prog 58 #[fv, .pointer (some ⟨q, 0, none⟩)] w fun e w' => e = .returned (.bool (p L[i])) ∧ Mods None w w') :
    Calls Tryd.prog 69 #[v, .func (.func 58) #[] #[.pointer (some ⟨q, 0, none⟩)]] W fun e w => e = .returned (.int .i64 (optI (L.findIdx? p))) ∧ Mods None W w := by
  obtain ⟨a, c, rfl, hnc, hcm, h0⟩ := hL.form
  have HL := Lib.hid hL
  have HK := Lib.hid hK
  obtain ⟨n, hn⟩ : ∃ n, n = L.length := ⟨_, rfl⟩
  rw [← hn] at hnc h0 ⊢
  have HN := Lib.hid hn
  clear hn hL hK
  go_enter Tryd.func69, Tryd.ntmps69
  go_wp2_with fail
  go_loopw [5, 8] (fun _ iv wr => ∃ i : Nat, i ≤ n ∧ iv = .int .i64 i ∧ Hid ((L.take i).findIdx? p = none) ∧ Hid (Mods None W wr)) (fun _ iv _ => (n - intOf iv).toNat)
  case atStart => exact ⟨0, Nat.zero_le _, rfl, Lib.hid (by simp), Lib.hid (Mods.refl _ _)⟩
  case round =>
    obtain ⟨i, hi, rfl, HI, HM⟩ := hrel
    by_cases hlt : i < n
    · have hil : i < L.length := by have := HN.out; omega
      have HIL := Lib.hid hil
      obtain ⟨g, o, aa, ac, rfl, hcs, hT⟩ := (HL.out.mods (T := S) (HM.out.mono fun _ _ f => f.elim) (fun _ _ k => k)).get hil
      obtain ⟨c0, c1, c2, c3, c4, c5, c6, c7, c8, c9⟩ := hcs
      have hpi : (i : Int) < (n : Int) := by omega
      have HT := Lib.hid (findIdx_take HI.out (List.getElem?_eq_getElem hil))
      have HE := Lib.hid (HK.out i hil wr _ HM.out ⟨aa, ac, rfl, hT⟩)
      clear hT
      generalize L[i] = x at *
      clear hil
      obtain ⟨b, hb⟩ : ∃ b, b = p x := ⟨_, rfl⟩
      rw [← hb] at HE HT
      clear hb
      unfold stpL str at *
      go_wp2_with fail
      go_at_call 58
      refine HE.out.mono ?_
      rintro e w1 ⟨rfl, hm1⟩
      have HM1 := Lib.hid (HM.out.trans hm1)
      clear hm1
      cases b
      · have HT2 : Hid ((L.take (i + 1)).findIdx? p = none) := Lib.hid (by rw [HT.out]; rfl)
        go_wp2_with fail
        exact ⟨⟨i + 1, by omega, by go_num, HT2, HM1⟩, by simp [intOf]; omega⟩
      · have HT2 : Hid (L.findIdx? p = some i) := Lib.hid (findIdx_more (i := i + 1) (by rw [HT.out]; rfl))
        go_wp2_with fail
        go_ret
        rw [HT2.out]
        exact ⟨rfl, HM1.out⟩
    · obtain rfl : i = n := by omega
      have HF : Hid (L.findIdx? p = none) := Lib.hid (by
        have := HI.out
        rwa [List.take_of_length_le (by have := HN.out; omega)] at this)
      go_wp2_with fail
      go_ret
      rw [HF.out]
      exact ⟨rfl, HM.out⟩
end Go.Proofs.YtoajcbfejplfbaaDoor.MidP
namespace Go.Proofs.YtoajcbfejplfbaaDoor.MidP
open Go.RowKit Go.Proofs.YtoajcbfejplfbaaDoor.Wo Go.Maps Go.Proofs.YtoajcbfejplfbaaDoor.TreeP
set_option linter.unusedVariables false
set_option linter.unusedSimpArgs false
theorem zero_bool (w : World) : (zeroValue 4).run Tryd.prog w = .ok (.bool false) w := by kernel_rfl
set_option maxRecDepth 100000 in
set_option maxHeartbeats 2000000 in
theorem spare_any (s : Stp) (v : Value) (S : Nat → Prop) (W : World) (h : StpV W S s v) (hl : I64 s.label) {q bm n : Nat} {l : List Stp} (hq : W.cell? ⟨q, 0, none⟩ = some (.map (some bm))) (hm : IntMap W bm n (.bool false) (fun x => .bool (usedB l x))) :
    Calls Tryd.prog 58 #[v, .pointer (some ⟨q, 0, none⟩)] W fun e w => e = .returned (.bool (spareB l s)) ∧ Mods None W w := by
  obtain ⟨aa, ac, rfl, -⟩ := h
  obtain ⟨xc, xd, xa, xb, xe, xn, xo, xl, xm, xs⟩ := s
  simp only at hl ⊢
  unfold spareB
  simp only
  obtain ⟨ub, hub⟩ : ∃ ub, ub = usedB l xl := ⟨_, rfl⟩
  rw [← hub]
  obtain ⟨rb, hrb⟩ : ∃ rb, rb = (xc == 6 && !ub) := ⟨_, rfl⟩
  rw [← hrb]
  have HRB := Lib.hid hrb
  clear hrb
  obtain ⟨W1, hW1⟩ : ∃ W1, W1 = W.alloc (.cells (stpL ⟨xc, xd, xa, xb, xe, xn, xo, xl, xm, xs⟩ (.slice aa xs.length ac)).toArray 44) := ⟨_, rfl⟩
  have hm1 : Mods None W W1 := by rw [hW1]; exact (Mods.refl _ _).alloc _
  have hb1 : Blk W1 W.heap.size (stpL ⟨xc, xd, xa, xb, xe, xn, xo, xl, xm, xs⟩ (.slice aa xs.length ac)) 44 := by rw [hW1]; exact Blk.new W _ _
  have hq1 : W1.cell? ⟨q, 0, none⟩ = some (.map (some bm)) := hm1.cellOf hq (fun f => f)
  have hlk := (hm.mods hm1 (fun f => f)).look (t := 97) Tryd.underlying97 (zero_bool _) hl
  have hlk2 := ((hm.mods hm1 (fun f => f)).mods (Mods.refl None W1).drew (fun f => f)).look (t := 97) Tryd.underlying97 (zero_bool _) hl
  rw [← hub] at hlk hlk2
  have c0 := hb1.cell (i := 0) rfl
  have c7 := hb1.cell (i := 7) rfl
  have HM1 := Lib.hid hm1
  clear hq hm hb1 hub hm1
  unfold stpL str at *
  simp only at hW1 c0 c7 ⊢
  go_enter Tryd.func58, Tryd.ntmps58
  go_upto_region 1 with (fail)
  rw [← hW1]
  clear hW1
  by_cases h6 : xc = 6
  · have h6b : (xc == 6) = true := by simpa using h6
    have e : rb = !ub := by rw [HRB.out, h6b]; rfl
    clear HRB h6
    subst e
    cases ub <;>
    · go_wp2_with fail
      go_ret
      exact ⟨rfl, by first | exact HM1.out | exact HM1.out.drew⟩
  · have h6b : (xc == 6) = false := by simpa using h6
    have e : rb = false := by rw [HRB.out, h6b]; rfl
    clear HRB h6
    subst e
    go_wp2_with fail
    go_ret
    exact ⟨rfl, by first | exact HM1.out | exact HM1.out.drew⟩
end Go.Proofs.YtoajcbfejplfbaaDoor.MidP
namespace Go.Proofs.YtoajcbfejplfbaaDoor.MidP
open Go.RowKit Go.Proofs.YtoajcbfejplfbaaDoor.Wo Go.Maps Go.Proofs.YtoajcbfejplfbaaDoor.TreeP
set_option linter.unusedVariables false
set_option linter.unusedSimpArgs false
/-- Steps in a block that is stored into. -/
def RowM (w : World) (T : Nat → Prop) (g : Nat) (m : List Stp) : Prop :=
  ∃ cur : List Value, Blk w g cur 44 ∧ m.length * 10 ≤ cur.length ∧ ∀ (i : Nat) (s : Stp), m[i]? = some s → ∃ aa ac, (∀ k u, (stpL s (.slice aa s.args.length ac))[k]? = some u → cur[i * 10 + k]? = some u) ∧ IntsAt w T (.slice aa s.args.length ac) s.args
theorem RowM.mods {w w' : World} {T : Nat → Prop} {g : Nat} {m : List Stp} (h : RowM w T g m) (hm : Mods None w w') : RowM w' T g m := by
  obtain ⟨cur, h1, h2, h3⟩ := h
  refine ⟨cur, h1.mods hm (fun f => f), h2, fun i s hs => ?_⟩
  obtain ⟨aa, ac, k1, k2⟩ := h3 i s hs
  exact ⟨aa, ac, k1, k2.mods (hm.mono fun _ _ f => f.elim) (fun _ _ k => k)⟩
theorem RowM.get {w : World} {T : Nat → Prop} {g : Nat} {m : List Stp} (h : RowM w T g m) {i : Nat} {s : Stp} (hs : m[i]? = some s) : ∃ aa ac, StpCells w g (i * 10) s (.slice aa s.args.length ac) ∧ IntsAt w T (.slice aa s.args.length ac) s.args := by
  obtain ⟨cur, h1, h2, h3⟩ := h
  obtain ⟨aa, ac, k1, k2⟩ := h3 i s hs
  have hc : ∀ k u, (stpL s (.slice aa s.args.length ac))[k]? = some u → w.cell? ⟨g, i * 10 + k, none⟩ = some u := fun k u hk => h1.cell (k1 k u hk)
  exact ⟨aa, ac, ⟨hc 0 _ rfl, hc 1 _ rfl, hc 2 _ rfl, hc 3 _ rfl, hc 4 _ rfl, hc 5 _ rfl, hc 6 _ rfl, hc 7 _ rfl, hc 8 _ rfl, hc 9 _ rfl⟩, k2⟩
def setL (c : List Value) (o : Nat) : List Value → List Value
  | [] => c
  | v :: r => setL (c.set o v) (o + 1) r
def setW (w : World) (g o : Nat) : List Value → World
  | [] => w
  | v :: r => setW (w.setCell ⟨g, o, none⟩ v) g (o + 1) r
theorem setL_len : (l : List Value) → ∀ c o, (setL c o l).length = c.length
  | [], c, o => rfl
  | v :: r, c, o => by rw [setL, setL_len r, List.length_set]
theorem setL_get : (l : List Value) → ∀ c o j, o + l.length ≤ c.length → (setL c o l)[j]? = if o ≤ j ∧ j < o + l.length then l[j - o]? else c[j]?
  | [], c, o, j, _ => by rw [setL, if_neg (by simp)]
  | v :: r, c, o, j, h => by
    rw [List.length_cons] at h
    rw [setL, setL_get r _ _ _ (by rw [List.length_set]; omega), List.length_cons]
    by_cases h1 : o + 1 ≤ j ∧ j < o + 1 + r.length
    · rw [if_pos h1, if_pos (by omega)]
      obtain ⟨k, hk⟩ : ∃ k, j - o = k + 1 := ⟨j - o - 1, by omega⟩
      rw [hk, show j - (o + 1) = k by omega]
      rfl
    · rw [if_neg h1, List.getElem?_set]
      by_cases h2 : o = j
      · rw [if_pos h2, if_pos (by omega), if_pos (by omega), show j - o = 0 by omega]
        rfl
      · rw [if_neg h2, if_neg (by omega)]
theorem setW_blk : (l : List Value) → ∀ {w : World} {g o : Nat} {c : List Value} {t : TypeId}, Blk w g c t → Blk (setW w g o l) g (setL c o l) t ∧ Mods (· = g) w (setW w g o l)
  | [], w, g, o, c, t, h => ⟨h, Mods.refl _ _⟩
  | v :: r, w, g, o, c, t, h => by
    obtain ⟨h1, h2⟩ := setW_blk r (w := w.setCell ⟨g, o, none⟩ v) (g := g) (o := o + 1) (h.set o v)
    exact ⟨h1, (Mods.setCell (S := (· = g)) (Mods.refl _ w) (p := ⟨g, o, none⟩) (fun _ => rfl) v).trans h2⟩
/-- A step is stored. -/
theorem RowM.store {w : World} {T : Nat → Prop} {g : Nat} {m : List Stp} (h : RowM w T g m) (hT : T g) {i : Nat} (hi : i < m.length) {x : Stp} {aa : Option Addr} {ac : Nat} (ha : IntsAt w T (.slice aa x.args.length ac) x.args) :
    RowM (setW w g (i * 10) (stpL x (.slice aa x.args.length ac))) T g (m.set i x) ∧ Mods (· = g) w (setW w g (i * 10) (stpL x (.slice aa x.args.length ac))) := by
  obtain ⟨cur, h1, h2, h3⟩ := h
  obtain ⟨k1, k2⟩ := setW_blk (stpL x (.slice aa x.args.length ac)) (o := i * 10) h1
  refine ⟨⟨_, k1, by rw [setL_len, List.length_set]; exact h2, fun j s hs => ?_⟩, k2⟩
  have hfit : i * 10 + (stpL x (.slice aa x.args.length ac)).length ≤ cur.length := by rw [stpL_len]; omega
  have hm : Mods T w (setW w g (i * 10) (stpL x (.slice aa x.args.length ac))) := k2.mono fun k _ e => by rw [e]; exact hT
  rw [List.getElem?_set] at hs
  by_cases hij : i = j
  · rw [if_pos hij, if_pos hi] at hs
    obtain rfl := Option.some.inj hs
    subst hij
    refine ⟨aa, ac, fun k u hk => ?_, ha.mods hm (fun _ _ k => k)⟩
    have hk10 : k < 10 := by
      have := (List.getElem?_eq_some_iff.1 hk).1
      rwa [stpL_len] at this
    rw [setL_get _ _ _ _ hfit, stpL_len, if_pos (by omega), show i * 10 + k - i * 10 = k by omega]
    exact hk
  · rw [if_neg hij] at hs
    obtain ⟨ba, bc, e1, e2⟩ := h3 j s hs
    refine ⟨ba, bc, fun k u hk => ?_, e2.mods hm (fun _ _ k => k)⟩
    have hk10 : k < 10 := by
      have := (List.getElem?_eq_some_iff.1 hk).1
      rwa [stpL_len] at this
    rw [setL_get _ _ _ _ hfit, stpL_len, if_neg (by omega)]
    exact e1 k u hk
/-- The first of them are steps that are only read. -/
theorem RowM.at_ {w : World} {T S : Nat → Prop} {g : Nat} {m l : List Stp} (h : RowM w T g m) {i c : Nat} (hl : m.take i = l) (hi : i ≤ m.length) (hc : i ≤ c) (hcm : c ≤ maxLen) (hS : ¬ S g) (hST : ∀ k, S k → T k) : StpsAt w S (.slice (some ⟨g, 0, none⟩) i c) l := by
  have hll : l.length = i := by rw [← hl, List.length_take]; omega
  refine ⟨some ⟨g, 0, none⟩, c, by rw [hll], by omega, hcm, (fun h => by cases h), fun j s hs => ?_⟩
  have hj : m[j]? = some s := by
    rw [← hl, List.getElem?_take] at hs
    split at hs
    · exact hs
    · cases hs
  obtain ⟨aa, ac, k1, k2⟩ := h.get hj
  exact ⟨g, 0, _, rfl, hS, by rw [Nat.zero_add]; exact k1, k2.mods (Mods.refl _ _) (fun k _ h => hST k h)⟩
/-- clear, over elements of several cells. -/
theorem run_clear_rows (P : Program) (w : World) (t ty elem : TypeId) (z : Value) (hu : P.underlying t = some (.slice elem)) (hz : (zeroValue elem).run P w = .ok z w) (g o n c : Nat) (cur : List Value) (te : TypeId) (hg : Blk w g cur te) (hfit : o + n * z.cells.size ≤ cur.length) (h1 : ∀ i, i < z.cells.size → (z.cells[i]!).oneCell' = true) :
    ∃ w', (Builtin.clear_ #[t] ty #[.slice (some ⟨g, o, none⟩) n c]).run P w = .ok (.tuple #[]) w' ∧ Mods (· = g) w w' ∧ ∃ cur', Blk w' g cur' te ∧ cur'.length = cur.length ∧ ∀ j, j < o → cur'[j]? = cur[j]? := by
  rcases Nat.eq_zero_or_pos n with rfl | hn
  · refine ⟨w, ?_, Mods.refl _ _, cur, hg, rfl, fun _ _ => rfl⟩
    simp [Builtin.clear_, run_underlying hu]
  · obtain ⟨k, rfl⟩ : ∃ k, n = k + 1 := ⟨n - 1, by omega⟩
    have hlen : (Builtin.zeroCells z.cells (k + 1)).toList.length = (k + 1) * z.cells.size := by simp [Builtin.zeroCells]
    have hst := run_storeCells_at P g o te (Builtin.zeroCells z.cells (k + 1)).toList 0 cur.toArray w hg (by rw [hlen]; simpa using hfit) (by
      intro v hv
      rw [Array.mem_toList_iff] at hv
      simp only [Builtin.zeroCells, Array.mem_map, Array.mem_range] at hv
      obtain ⟨i, hi, rfl⟩ := hv
      refine h1 _ (Nat.mod_lt _ ?_)
      rcases Nat.eq_zero_or_pos z.cells.size with h0 | h0
      · rw [h0] at hi; omega
      · exact h0)
    obtain ⟨new, hnew⟩ : ∃ new : List Value, new = cur.toArray.toList.take (o + 0) ++ (Builtin.zeroCells z.cells (k + 1)).toList ++ cur.toArray.toList.drop (o + 0 + (Builtin.zeroCells z.cells (k + 1)).toList.length) := ⟨_, rfl⟩
    rw [← hnew] at hst
    refine ⟨w.setRow g new.toArray, ?_, ⟨rfl, rfl, ?_, fun j hj hn => setRow_other w g j _ hn⟩, new, setRow_heap w g cur.toArray _ te _ hg, ?_, fun j hj => ?_⟩
    · simp [Builtin.clear_, run_underlying hu, hz, hst]
    · simp [World.setRow]
    · rw [hnew]
      simp only [Nat.add_zero, List.length_append, List.length_take, List.length_drop, hlen]
      omega
    · rw [hnew]
      simp only [Nat.add_zero]
      rw [List.append_assoc, List.getElem?_append_left (by rw [List.length_take]; omega), List.getElem?_take_of_lt hj]
theorem zero_stp (w : World) : (zeroValue 44).run Tryd.prog w = .ok zeroStp w := by kernel_rfl
theorem zero_ones : ∀ i, i < zeroStp.cells.size → (zeroStp.cells[i]!).oneCell' = true := by
  intro i hi
  have h : zeroStp.cells.size = 10 := rfl
  rw [h] at hi
  match i, hi with
  | 0, _ => rfl
  | 1, _ => rfl
  | 2, _ => rfl
  | 3, _ => rfl
  | 4, _ => rfl
  | 5, _ => rfl
  | 6, _ => rfl
  | 7, _ => rfl
  | 8, _ => rfl
  | 9, _ => rfl
/-- A row of one's own is one that is stored into. -/
theorem outs_row {W : World} {S : Nat → Prop} {base : Nat} {v : Value} {l : List Stp} (h : Outs W base S v l) (h0 : 0 < l.length) : ∃ g cap, v = .slice (some ⟨g, 0, none⟩) l.length cap ∧ RowM W (fun k => S k ∨ k = g) g l ∧ ¬ S g ∧ l.length ≤ cap ∧ cap ≤ maxLen := by
  obtain ⟨cs, h1, h2, h9⟩ := h
  rcases h1.2 with ⟨hv, hz⟩ | ⟨g, cap, cur, hv, h3, h4, h5, h6, h7, h8⟩
  · omega
  · refine ⟨g, cap, hv, ⟨cur.toList, h4, by have e : cur.toList.length = cur.size := Array.length_toList; rw [e, h7]; omega, fun i s hs => ?_⟩, h9 g (by rw [hv]; rfl), h5, h6⟩
    obtain ⟨av, k1, k2⟩ := h2 i s hs
    obtain ⟨aa, ac, rfl, -⟩ := k2.form
    have hi : i < l.length := (List.getElem?_eq_some_iff.1 hs).1
    refine ⟨aa, ac, fun k u hk => ?_, k2.mods (Mods.refl _ _) (fun k _ hk => hk.imp id (fun e => by rw [hv, e]; rfl))⟩
    have hk10 : k < 10 := by
      have := (List.getElem?_eq_some_iff.1 hk).1
      rwa [stpL_len] at this
    have := k1 k u hk
    rw [← h8, List.getElem?_take_of_lt (by omega)] at this
    exact this
/-- Where DeleteFunc's loop stands: behind j steps, i of them kept. -/
structure DelSt (W : World) (T : Nat → Prop) (g : Nat) (p : Stp → Bool) (l : List Stp) (i j : Nat) (wr : World) : Prop where
  row : ∃ m, RowM wr T g m ∧ m.length = l.length ∧ m.take i = (l.take j).filter p ∧ m.drop j = l.drop j
  mods : Mods (· = g) W wr
theorem filter_take {p : Stp → Bool} {l : List Stp} {j : Nat} {x : Stp} (h : l[j]? = some x) : (l.take (j + 1)).filter p = (l.take j).filter p ++ if p x then [x] else [] := by
  rw [List.take_add_one, h, List.filter_append]
  congr 1
  cases hp : p x <;> simp [hp]
theorem take_set {m : List Stp} {i : Nat} {x : Stp} (hi : i < m.length) : (m.set i x).take (i + 1) = m.take i ++ [x] := by
  rw [List.take_add_one, List.take_set_of_le (by omega), List.getElem?_set_self hi]
  rfl
theorem first_find {p : Stp → Bool} {l : List Stp} {i : Nat} (h : l.findIdx? p = some i) : i < l.length ∧ (l.take (i + 1)).filter (fun s => !p s) = l.take i := by
  rw [List.findIdx?_eq_some_iff_getElem] at h
  obtain ⟨hi, h1, h2⟩ := h
  refine ⟨hi, ?_⟩
  rw [filter_take (List.getElem?_eq_getElem hi), h1]
  simp only [Bool.not_true, Bool.false_eq_true, if_false, List.append_nil]
  rw [List.filter_eq_self]
  intro s hs
  obtain ⟨j, hj, rfl⟩ := List.getElem_of_mem hs
  rw [List.length_take] at hj
  have := h2 j (by omega)
  rw [List.getElem_take]
  simpa using this
set_option maxRecDepth 100000 in
set_option maxHeartbeats 4000000 in
theorem deletef_any {W : World} {S : Nat → Prop} {base : Nat} {v : Value} {l : List Stp} {q bm n : Nat} (h : Outs W base S v l) (hl64 : ∀ s ∈ l, I64 s.label) (hq : W.cell? ⟨q, 0, none⟩ = some (.map (some bm))) (hm : IntMap W bm n (.bool false) (fun x => .bool (usedB l x))) (hap : ∀ k, v.ownBlock = some k → k ≠ q ∧ k ≠ bm) (hll : l.length ≤ 6000) :
    Calls Tryd.prog 57 #[v, .func (.func 58) #[] #[.pointer (some ⟨q, 0, none⟩)]] W fun e w => ∃ a c, e = .returned (.slice a (l.filter (fun s => !spareB l s)).length c) ∧ StpsAt w S (.slice a (l.filter (fun s => !spareB l s)).length c) (l.filter (fun s => !spareB l s)) ∧ Mods (fun k => v.ownBlock = some k) W w := by
  have hat := h.at_
  have hix := index_reached l v q (spareB l) S W hat (fun i hi w fv hm1 hv => spare_any l[i] fv S w hv (hl64 _ (List.getElem_mem _)) (hm1.cellOf hq (fun f => f)) (hm.mods hm1 (fun f => f)))
  obtain ⟨oa, oc, rfl⟩ := h.form
  have HH := Lib.hid (And.intro h (And.intro hl64 (And.intro hq (And.intro hm hap))))
  have HAT := Lib.hid hat
  have HIX := Lib.hid hix
  obtain ⟨p, hp⟩ : ∃ p : Stp → Bool, p = spareB l := ⟨_, rfl⟩
  have HP := Lib.hid hp
  have hpe : (fun s => !spareB l s) = (fun s => !p s) := by rw [hp]
  rw [hpe]
  obtain ⟨ln, hln⟩ : ∃ ln, ln = l.length := ⟨_, rfl⟩
  have HLN := Lib.hid hln
  rw [← hln] at hll ⊢
  have hl6 : (ln : Int) ≤ 6000 := by omega
  clear h hl64 hq hm hap hat hix hp hpe hln
  go_enter Tryd.func57, Tryd.ntmps57
  go_wp2_with fail
  go_at_call 69
  have HIX2 := HIX.out
  rw [← HLN.out, ← HP.out] at HIX2
  refine HIX2.mono ?_
  rintro e w1 ⟨rfl, hm1⟩
  have HM1 := Lib.hid hm1
  clear HIX2 HIX hm1
  cases hf : l.findIdx? p with
  | none =>
    simp only [optI]
    have hfl : l.filter (fun s => !p s) = l := by
      rw [List.filter_eq_self]
      intro s hs
      have := List.findIdx?_eq_none_iff.1 hf s hs
      simp [this]
    have HFL := Lib.hid hfl
    clear hf hfl
    go_wp2_with fail
    go_ret
    rw [HFL.out]
    exact ⟨oa, oc, by rw [HLN.out]; rfl, by have := HAT.out.mods (T := S) (HM1.out.mono fun _ _ f => f.elim) (fun _ _ k => k); exact this, HM1.out.mono fun _ _ f => f.elim⟩
  | some i0 =>
    obtain ⟨hi0, hft⟩ := first_find hf
    obtain ⟨g, cap, hov, hrow, hSg, hlc, hcm⟩ := outs_row HH.out.1 (by omega)
    obtain ⟨rfl, -, rfl⟩ := Value.slice.inj hov
    have HD : Hid (DelSt w1 (fun k => S k ∨ k = g) g (fun s => !p s) l i0 (i0 + 1) w1) := Lib.hid ⟨⟨l, hrow.mods HM1.out, rfl, hft.symm, rfl⟩, Mods.refl _ _⟩
    have HG := Lib.hid (And.intro hSg (And.intro hlc hcm))
    have hi0n : i0 < ln := by rw [HLN.out]; exact hi0
    simp only [optI]
    have hne : ((i0 : Int) == -1) = false := by
      rw [beq_eq_false_iff_ne]; omega
    clear hf hft hov hrow hSg hlc hcm hi0 HAT
    go_upto_region 4 with (fail)
    clear hne
    go_wp2_with fail
    go_loopw [5, 6] (fun iv jv wr => ∃ i j : Nat, i < j ∧ j ≤ ln ∧ iv = .int .i64 (i : Int) ∧ jv = .int .i64 (j : Int) ∧ Hid (DelSt w1 (fun k => S k ∨ k = g) g (fun s => !p s) l i j wr)) (fun _ jv _ => (ln - intOf jv).toNat)
    case atStart => exact ⟨i0, i0 + 1, by omega, by omega, rfl, by go_num, HD⟩
    case round =>
      clear HD
      obtain ⟨wx, rfl⟩ : ∃ wx : World, wx = wr := ⟨_, rfl⟩
      obtain ⟨i, j, hij, hj, rfl, rfl, HS⟩ := hrel
      by_cases hlt : j < ln
      · have hjl : j < l.length := by rw [← HLN.out]; exact hlt
        obtain ⟨x, hxi⟩ : ∃ x, l[j]? = some x := ⟨_, List.getElem?_eq_getElem hjl⟩
        obtain ⟨m, hm1, hm2, hm3, hm4⟩ := HS.out.row
        have hmx : m[j]? = some x := by
          have h1 : (m.drop j)[0]? = (l.drop j)[0]? := by rw [hm4]
          rw [List.getElem?_drop, List.getElem?_drop] at h1
          simpa [hxi] using h1
        obtain ⟨xa, xc, hcs, hxargs⟩ := hm1.get hmx
        obtain ⟨y0, y1, y2, y3, y4, y5, y6, y7, y8, y9⟩ := hcs
        have hpi : (j : Int) < (ln : Int) := by omega
        have hj6 : j < 6000 := by omega
        obtain ⟨W6, hW6⟩ : ∃ W6, W6 = wx.alloc (.cells (stpL x (.slice xa x.args.length xc)).toArray 44) := ⟨_, rfl⟩
        have hm6 : Mods None wx W6 := by rw [hW6]; exact (Mods.refl _ _).alloc _
        have hb6 : Blk W6 wx.heap.size (stpL x (.slice xa x.args.length xc)) 44 := by rw [hW6]; exact Blk.new wx _ _
        have HB6 := Lib.hid hb6
        have HM6 := Lib.hid hm6
        have HX := Lib.hid (And.intro hxi (And.intro hm1 (And.intro hm2 (And.intro hm3 (And.intro hm4 hxargs)))))
        have hqg : q ≠ g ∧ bm ≠ g := by
          have := HH.out.2.2.2.2 g rfl
          exact ⟨fun e => this.1 e.symm, fun e => this.2 e.symm⟩
        have hW16 : Mods (· = g) w1 W6 := HS.out.mods.trans (hm6.mono fun _ _ f => f.elim)
        have hcell := hW16.cellOf (HM1.out.cellOf HH.out.2.2.1 (fun f => f)) hqg.1
        have hmap := (HH.out.2.2.2.1.mods HM1.out (fun f => f)).mods hW16 hqg.2
        have HSP := Lib.hid (spare_any x (.agg (stpL x (.slice xa x.args.length xc)).toArray) (fun k => S k ∨ k = g) W6 ⟨xa, xc, rfl, hxargs.mods (hm6.mono fun _ _ f => f.elim) (fun _ _ k => k)⟩ (HH.out.2.1 x (List.mem_of_getElem? hxi)) hcell hmap)
        rw [← HP.out] at HSP
        obtain ⟨xn, hxn⟩ : ∃ xn, xn = x.args.length := ⟨_, rfl⟩
        have HXN := Lib.hid hxn
        rw [← hxn] at y9 hW6 HSP
        have HB6 : Hid (Blk W6 wx.heap.size (stpL x (.slice xa xn xc)) 44) := by rw [hxn]; exact HB6
        obtain ⟨pb, hpb⟩ : ∃ pb, pb = p x := ⟨_, rfl⟩
        rw [← hpb] at HSP
        have HPB := Lib.hid hpb
        clear hxi hm1 hm2 hm3 hm4 hmx hxargs hm6 hb6 hW16 hcell hmap hxn hjl hpb hqg
        unfold stpL str at *
        go_upto_region 8 with (fail)
        rw [← hW6]
        clear hW6 y0 y1 y2 y3 y4 y5 y6 y7 y8 y9
        have e0 := HB6.out.cell (i := 0) rfl
        have e1 := HB6.out.cell (i := 1) rfl
        have e2 := HB6.out.cell (i := 2) rfl
        have e3 := HB6.out.cell (i := 3) rfl
        have e4 := HB6.out.cell (i := 4) rfl
        have e5 := HB6.out.cell (i := 5) rfl
        have e6 := HB6.out.cell (i := 6) rfl
        have e7 := HB6.out.cell (i := 7) rfl
        have e8 := HB6.out.cell (i := 8) rfl
        have e9 := HB6.out.cell (i := 9) rfl
        go_wp2_with fail
        go_at_call 58
        refine HSP.out.mono ?_
        rintro e w7 ⟨rfl, hm7⟩
        have HM7 := Lib.hid (HM6.out.trans hm7)
        have HB7 := Lib.hid (HB6.out.mods hm7 (fun f => f))
        clear e0 e1 e2 e3 e4 e5 e6 e7 e8 e9 HB6 HSP HM6 hm7
        cases pb with
        | true =>
          go_wp2_with fail
          refine ⟨⟨i, j + 1, by omega, by omega, rfl, by go_num, Lib.hid ?_⟩, by simp [intOf]; omega⟩
          obtain ⟨hxi, hm1, hm2, hm3, hm4, hxargs⟩ := HX.out
          refine ⟨⟨_, hm1.mods HM7.out, hm2, ?_, ?_⟩, HS.out.mods.trans (HM7.out.mono fun _ _ f => f.elim)⟩
          · rw [hm3, filter_take hxi, ← HPB.out]
            simp
          · rw [← List.drop_drop, hm4, List.drop_drop]
        | false =>
          have e0 := HB7.out.cell (i := 0) rfl
          have e1 := HB7.out.cell (i := 1) rfl
          have e2 := HB7.out.cell (i := 2) rfl
          have e3 := HB7.out.cell (i := 3) rfl
          have e4 := HB7.out.cell (i := 4) rfl
          have e5 := HB7.out.cell (i := 5) rfl
          have e6 := HB7.out.cell (i := 6) rfl
          have e7 := HB7.out.cell (i := 7) rfl
          have e8 := HB7.out.cell (i := 8) rfl
          have e9 := HB7.out.cell (i := 9) rfl
          have HR7 : Hid (RowM w7 (fun k => S k ∨ k = g) g m) := Lib.hid (HX.out.2.1.mods HM7.out)
          have hil : i < m.length := by rw [HX.out.2.2.1, ← HLN.out]; omega
          have HIL := Lib.hid hil
          obtain ⟨z, hz⟩ : ∃ z, m[i]? = some z := ⟨_, List.getElem?_eq_getElem hil⟩
          obtain ⟨za, zc, hzs, -⟩ := HR7.out.get hz
          obtain ⟨z0, z1, z2, z3, z4, z5, z6, z7, z8, z9⟩ := hzs
          obtain ⟨cur, hcur, -⟩ := HR7.out
          have f0 := hcur.free (i * 10)
          have f1 := hcur.free (i * 10 + 1)
          have f2 := hcur.free (i * 10 + 2)
          have f3 := hcur.free (i * 10 + 3)
          have f4 := hcur.free (i * 10 + 4)
          have f5 := hcur.free (i * 10 + 5)
          have f6 := hcur.free (i * 10 + 6)
          have f7 := hcur.free (i * 10 + 7)
          have f8 := hcur.free (i * 10 + 8)
          have f9 := hcur.free (i * 10 + 9)
          have hpi2 : (i : Int) < (ln : Int) := by omega
          have hi6 : i < 6000 := by omega
          clear hcur hz hil
          go_wp2_with fail
          refine ⟨⟨i + 1, j + 1, by omega, by omega, by go_num, by go_num, Lib.hid ?_⟩, by simp [intOf]; omega⟩
          obtain ⟨hxi, hm1, hm2, hm3, hm4, hxargs⟩ := HX.out
          obtain ⟨k1, k2⟩ := HR7.out.store (Or.inr rfl) HIL.out (x := x) (aa := xa) (ac := xc) (hxargs.mods (HM7.out.mono fun _ _ f => f.elim) (fun _ _ k => k))
          rw [← HXN.out] at k1 k2
          refine ⟨⟨m.set i x, k1, by rw [List.length_set]; exact hm2, ?_, ?_⟩, (HS.out.mods.trans (HM7.out.mono fun _ _ f => f.elim)).trans k2⟩
          · rw [take_set HIL.out, hm3, filter_take hxi, ← HPB.out]
            simp
          · rw [List.drop_set_of_lt (by omega), ← List.drop_drop, hm4, List.drop_drop]
      · obtain rfl : j = ln := by omega
        obtain ⟨m, hm1, hm2, hm3, hm4⟩ := HS.out.row
        obtain ⟨cur, hcur, hcl, hrel⟩ := hm1
        have hfit : i * 10 + (j - i) * zeroStp.cells.size ≤ cur.length := by
          have e : zeroStp.cells.size = 10 := rfl
          rw [e]
          have := HLN.out
          omega
        have hti : List.take i m = List.filter (fun s => !p s) l := by rw [hm3, HLN.out, List.take_length]
        have HF := Lib.hid (And.intro hti (And.intro hm2 hrel))
        have HC := Lib.hid (And.intro hcur hfit)
        have hpi : ¬ (j : Int) < (j : Int) := by omega
        have hij2 : (i : Int) < (j : Int) := by omega
        have hle : (i : Int) ≤ (j : Int) := by omega
        have hi6 : i < 6000 := by omega
        have hcp : (j : Int) ≤ (oc : Int) := by have := HG.out.2.1; have := HLN.out; omega
        have hcp2 : (oc : Int) ≤ 9223372036854775807 := by have := HG.out.2.2; unfold maxLen at this; omega
        clear hm2 hm3 hm4 hcl hrel hcur hfit hti hlt hj
        obtain ⟨w9, hrun9, hm9, hc9⟩ := run_clear_rows Tryd.prog wx 33 0 44 zeroStp Tryd.underlying33 (zero_stp _) g (i * 10) (j - i) (oc - i) cur _ HC.out.1 HC.out.2 zero_ones
        have H9 := Lib.hid (And.intro hm9 hc9)
        clear hm9 hc9
        go_wp2_with fail
        go_ret
        obtain ⟨hm9, cur', hc1, hc2, hc3⟩ := H9.out
        obtain ⟨hti, hm2, hrel⟩ := HF.out
        have hmods : Mods (· = g) W w9 := ((HM1.out.mono fun _ _ f => f.elim).trans HS.out.mods).trans hm9
        have hmT : Mods (fun k => S k ∨ k = g) wx w9 := hm9.mono fun k _ e => Or.inr e
        have hll : i ≤ m.length := by rw [hm2, ← HLN.out]; omega
        have hfl : (l.filter fun s => !p s).length = i := by rw [← hti, List.length_take]; omega
        have hrow : RowM w9 (fun k => S k ∨ k = g) g (m.take i) := by
          refine ⟨cur', hc1, ?_, fun k s hs => ?_⟩
          · rw [List.length_take, hc2]
            have := HC.out.2
            have e : zeroStp.cells.size = 10 := rfl
            rw [e] at this
            omega
          · have hk : k < i ∧ m[k]? = some s := by
              rw [List.getElem?_take] at hs
              split at hs
              · exact ⟨by assumption, hs⟩
              · cases hs
            obtain ⟨aa, ac, e1, e2⟩ := hrel k s hk.2
            refine ⟨aa, ac, fun b u hu => ?_, e2.mods hmT (fun _ _ k => k)⟩
            have hb10 : b < 10 := by
              have := (List.getElem?_eq_some_iff.1 hu).1
              rwa [stpL_len] at this
            rw [hc3 _ (by omega)]
            exact e1 b u hu
        refine ⟨some ⟨g, 0, none⟩, oc, by rw [hfl]; rfl, ?_, hmods.mono fun k _ e => by rw [e]; rfl⟩
        have := hrow.at_ (l := l.filter fun s => !p s) (i := i) (c := oc) (by rw [List.take_take, Nat.min_self]; exact hti) (by rw [List.length_take]; omega) (by omega) HG.out.2.2 HG.out.1 (fun k hk => Or.inl hk)
        rw [hfl]
        exact this
end Go.Proofs.YtoajcbfejplfbaaDoor.MidP

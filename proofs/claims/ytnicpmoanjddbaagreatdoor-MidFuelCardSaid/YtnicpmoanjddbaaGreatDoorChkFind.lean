/- The checker's look at any statements. Conditions: its functions, names, and the statements lie. Whether there is a function of a name, and main. Conditions: the functions lie. -/
import Derived.Test.YtnicpmoanjddbaaGreatDoorChkVar
namespace Go.Proofs.YtnicpmoanjddbaaGreatDoor.TreeP
open Go.RowKit Go.Proofs.YtnicpmoanjddbaaGreatDoor.Wo
set_option linter.unusedVariables false
set_option linter.unusedSimpArgs false
theorem blockK_nil (L : List Fn) (N : Nm) (m : Nat) : blockK L N m [] = .ok (N, m) := by simp only [blockK, stmtsK, bindK]
theorem blk_nil (L : List Fn) : BlK L [] := block_k (fun s h => nomatch h)
theorem rest_nil {L : List Fn} {N : Nm} {m : Nat} {v : Ex} {r : CK (Nm × Nat)} (h : bindK (wantK L N v 1) (fun _ => .ok (N, m)) = r) : restK L N m v [] [] = r := by
  rw [← h]
  unfold restK
  simp only [blockK_nil]
  rfl
theorem sts_nil (W : World) (S : Nat → Prop) : StsAt W S [] [] := by simp only [StsAt]
mutual
theorem stmtk_all (L : List Fn) : (s : St) → StK L s
  | .var a s v => fun b N m cs W r hC hs hr => by
    simp only [StAt] at hs
    obtain ⟨x, rfl, hx⟩ := hs
    exact stmtk_var a s v b N m x W r hC hx hr
  | .set a s v => fun b N m cs W r hC hs hr => by
    simp only [StAt] at hs
    obtain ⟨x, rfl, hx⟩ := hs
    exact stmtk_set a s v b N m x W r hC hx hr
  | .put a s i v => fun b N m cs W r hC hs hr => by
    simp only [StAt] at hs
    obtain ⟨x, y, rfl, hx, hy⟩ := hs
    exact stmtk_put a s i v b N m x y W r hC hx hy hr
  | .cond a v t e => fun b N m cs W r hC hs hr => by
    simp only [StAt] at hs
    obtain ⟨x, p, vp, q, vq, rfl, hx, h1, h2, h3, h4⟩ := hs
    refine stmtk_rest 4 a (by simp) (block_k (stmtsk_all L t)) (block_k (stmtsk_all L e)) b N m x p q vp vq W r hC hx h1 h2 h3 h4 ?_
    rw [← hr]
    simp only [stmtK, restK, blockK, bindK_assoc]
    rfl
  | .loop a v t => fun b N m cs W r hC hs hr => by
    simp only [StAt] at hs
    obtain ⟨x, p, vp, rfl, hx, h1, h2⟩ := hs
    refine stmtk_rest 5 a (by simp) (block_k (stmtsk_all L t)) (blk_nil L) b N m x p nilS vp [] W r hC hx h1 h2 (row_nil _ _ _ _) (sts_nil _ _) ?_
    rw [← hr]
    simp only [stmtK, restK, blockK_nil]
    simp only [blockK, bindK_assoc]
    rfl
  | .ret a v => fun b N m cs W r hC hs hr => by
    simp only [StAt] at hs
    obtain ⟨x, rfl, hx⟩ := hs
    exact stmtk_rest 6 a (by simp) (blk_nil L) (blk_nil L) b N m x nilS nilS [] [] W r hC hx (row_nil _ _ _ _) (sts_nil _ _) (row_nil _ _ _ _) (sts_nil _ _) (rest_nil (by rw [← hr]; simp only [stmtK]))
  | .print a v => fun b N m cs W r hC hs hr => by
    simp only [StAt] at hs
    obtain ⟨x, rfl, hx⟩ := hs
    exact stmtk_rest 7 a (by simp) (blk_nil L) (blk_nil L) b N m x nilS nilS [] [] W r hC hx (row_nil _ _ _ _) (sts_nil _ _) (row_nil _ _ _ _) (sts_nil _ _) (rest_nil (by rw [← hr]; simp only [stmtK]))
  | .call a v => fun b N m cs W r hC hs hr => by
    simp only [StAt] at hs
    obtain ⟨x, rfl, hx⟩ := hs
    exact stmtk_rest 8 a (by simp) (blk_nil L) (blk_nil L) b N m x nilS nilS [] [] W r hC hx (row_nil _ _ _ _) (sts_nil _ _) (row_nil _ _ _ _) (sts_nil _ _) (rest_nil (by rw [← hr]; simp only [stmtK]))
theorem stmtsk_all (L : List Fn) : (l : List St) → ∀ s ∈ l, StK L s
  | [] => fun s h => nomatch h
  | a :: r => fun s h => (List.mem_cons.1 h).elim (fun h1 => h1 ▸ stmtk_all L a) (stmtsk_all L r s)
end
theorem block_any (L : List Fn) (l : List St) : BlK L l := block_k (stmtsk_all L l)
end Go.Proofs.YtnicpmoanjddbaaGreatDoor.TreeP
namespace Go.Proofs.YtnicpmoanjddbaaGreatDoor.TreeP
open Go.RowKit Go.Proofs.YtnicpmoanjddbaaGreatDoor.Wo
set_option linter.unusedVariables false
set_option linter.unusedSimpArgs false
set_option maxRecDepth 100000 in
theorem eq_twin (s : List UInt8) (a : List UInt8) (t : Int) (oa ob : Option Addr) (on oc om od : Nat) (q : Nat) (W : World) (hq : W.cell? ⟨q, 0, none⟩ = some (str s)) :
    Calls Tryz.prog 38 #[.agg #[str a, .int .i64 t, .slice oa on oc, .slice ob om od], .pointer (some ⟨q, 0, none⟩)] W fun e w => e = .returned (.bool (a == s)) ∧ Mods None W w := by
  have hlt : q < W.heap.size := World.block_lt_of_cell? W _ hq
  have hne : q ≠ W.heap.size := by omega
  unfold str at *
  go_enter Tryz.func38, Tryz.ntmps38
  go_wp2
  go_ret
  refine ⟨?_, (Mods.refl _ _).alloc _⟩
  simp
def isMain (a : List UInt8) (n : Nat) : Bool := a == [109, 97, 105, 110] && n == 0
set_option maxRecDepth 100000 in
theorem eq_main (a : List UInt8) (t : Int) (oa ob : Option Addr) (on oc om od : Nat) (W : World) :
    Calls Tryz.prog 42 #[.agg #[str a, .int .i64 t, .slice oa on oc, .slice ob om od]] W fun e w => e = .returned (.bool (isMain a on)) ∧ Mods None W w := by
  unfold str isMain
  rcases hb : (a == [109, 97, 105, 110]) with _ | _
  · go_enter Tryz.func42, Tryz.ntmps42
    go_wp2
    go_ret
    exact ⟨rfl, (Mods.refl _ _).alloc _⟩
  · rcases hn : (on == 0) with _ | _
    · have hn0 : ((on : Int) == 0) = false := by simp at hn ⊢; omega
      go_enter Tryz.func42, Tryz.ntmps42
      go_wp2
      go_ret
      exact ⟨rfl, (Mods.refl _ _).alloc _⟩
    · obtain rfl : on = 0 := by simpa using hn
      go_enter Tryz.func42, Tryz.ntmps42
      go_wp2
      go_ret
      exact ⟨rfl, (Mods.refl _ _).alloc _⟩
/-- Where main stands first. -/
def idxM : List Fn → Option Nat
  | [] => none
  | p :: r => if mainB p then some 0 else (idxM r).map (· + 1)
theorem idxM_take {N : List Fn} {i : Nat} (h : idxM (N.take i) = none) {p : Fn} (hp : N[i]? = some p) : idxM (N.take (i + 1)) = if mainB p then some i else none := by
  induction N generalizing i with
  | nil => simp at hp
  | cons a r ih =>
    cases i with
    | zero =>
      simp only [List.getElem?_cons_zero, Option.some.injEq] at hp
      subst hp
      simp [idxM]
    | succ i =>
      simp only [List.take_succ_cons, idxM] at h ⊢
      split at h
      · cases h
      · rename_i hn
        rw [if_neg hn]
        simp only [Option.map_eq_none_iff] at h
        rw [ih h (by simpa using hp)]
        split <;> rfl
theorem idxM_more {N : List Fn} {i j : Nat} (h : idxM (N.take i) = some j) : idxM N = some j := by
  induction N generalizing i j with
  | nil => simp [idxM] at h
  | cons a r ih =>
    cases i with
    | zero => simp [idxM] at h
    | succ i =>
      simp only [List.take_succ_cons, idxM] at h ⊢
      split at h
      · rename_i hy
        rw [if_pos hy]
        exact h
      · rename_i hn
        rw [if_neg hn]
        obtain ⟨k, hk, rfl⟩ := Option.map_eq_some_iff.1 h
        rw [ih hk]
        rfl
theorem idxM_any (L : List Fn) : (idxM L).isSome = L.any mainB := by
  induction L with
  | nil => rfl
  | cons a r ih =>
    simp only [idxM, List.any_cons]
    split
    · rename_i h; rw [h]; rfl
    · rename_i h
      rw [Bool.not_eq_true] at h
      rw [h, Option.isSome_map, ih]
      rfl
theorem idxF_any (L : List Fn) (s : List UInt8) : (idxF L s).isSome = L.any (fun g => g.name == s) := by
  induction L with
  | nil => rfl
  | cons a r ih =>
    simp only [idxF, List.any_cons]
    split
    · rename_i h; rw [h]; rfl
    · rename_i h
      rw [Bool.not_eq_true] at h
      rw [h, Option.isSome_map, ih]
      rfl
theorem FsAt.take {W : World} {S : Nat → Prop} {a : Option Addr} {n c i : Nat} {L : List Fn} (h : FsAt W S (.slice a n c) L) (hi : i ≤ n) (ha : a ≠ none) : FsAt W S (.slice a i c) (L.take i) := by
  obtain ⟨a', n', c', e, h2, h3, h4, h5, h6⟩ := h
  obtain ⟨rfl, rfl, rfl⟩ := Value.slice.inj e
  refine ⟨a, i, c, rfl, by rw [List.length_take]; omega, by omega, h4, fun h => absurd h ha, fun j f hj => ?_⟩
  rw [List.getElem?_take] at hj
  split at hj
  · exact h6 j f hj
  · cases hj
set_option maxRecDepth 100000 in
set_option maxHeartbeats 1000000 in
theorem index_twin (s : List UInt8) (L : List Fn) (S : Nat → Prop) (v : Value) (q : Nat) (W : World) (hq : W.cell? ⟨q, 0, none⟩ = some (str s)) (hL : FsAt W S v L) :
    Calls Tryz.prog 65 #[v, .func (.func 38) #[] #[.pointer (some ⟨q, 0, none⟩)]] W fun e w => e = .returned (.int .i64 (optI (idxF L s))) ∧ Mods None W w := by
  obtain ⟨a, n, c, rfl, hn, hnc, hcm, h0, hcell⟩ := hL
  have HN := Lib.hid hn
  have HC := Lib.hid (fun (w : World) (hm : Mods None W w) (i : Nat) (hi : i < n) => (by
    have hi2 : i < L.length := by omega
    obtain ⟨g, o, p, q, vq, e1, e2, e3, e4, e5, e6, e7, e8, e9⟩ := hcell i L[i] (List.getElem?_eq_getElem hi2)
    obtain ⟨pa, pn, pc, rfl⟩ := e7.form
    obtain ⟨qa, qn, qc, rfl⟩ := e8.form
    exact ⟨L[i], g, o, pa, pn, pc, qa, qn, qc, e1, List.getElem?_eq_getElem hi2, hm.cellOf e3 (fun f => f), hm.cellOf e4 (fun f => f), hm.cellOf e5 (fun f => f), hm.cellOf e6 (fun f => f)⟩ : ∃ x g o pa pn pc qa qn qc, a = some ⟨g, o, none⟩ ∧ L[i]? = some x ∧ w.cell? ⟨g, o + i * 4, none⟩ = some (str x.name) ∧ w.cell? ⟨g, o + i * 4 + 1, none⟩ = some (.int .i64 x.at_) ∧ w.cell? ⟨g, o + i * 4 + 2, none⟩ = some (.slice pa pn pc) ∧ w.cell? ⟨g, o + i * 4 + 3, none⟩ = some (.slice qa qn qc)))
  have HQ := Lib.hid (fun (w : World) (hm : Mods None W w) => (hm.cellOf hq (fun f => f) : w.cell? ⟨q, 0, none⟩ = some (str s)))
  unfold maxLen at hcm
  clear hn hcell hq
  unfold str at *
  go_enter Tryz.func65, Tryz.ntmps65
  go_wp2_with fail
  go_loopw [5, 8] (fun _ iv wr => ∃ i : Nat, i ≤ n ∧ iv = .int .i64 i ∧ Hid (idxF (L.take i) s = none) ∧ Hid (Mods None W wr)) (fun _ iv _ => (n - intOf iv).toNat)
  case atStart => exact ⟨0, Nat.zero_le _, rfl, Lib.hid (by simp [idxF]), Lib.hid (Mods.refl _ _)⟩
  case round =>
    obtain ⟨i, hi, rfl, HI, HM⟩ := hrel
    by_cases hlt : i < n
    · obtain ⟨x, gg, o, pa, pn, pc, qa, qn, qc, rfl, hx, c1, c2, c3, c4⟩ := HC.out wr HM.out i hlt
      have hpi : (i : Int) < (n : Int) := by omega
      have HT := Lib.hid (idxF_take HI.out hx)
      have HE := Lib.hid (eq_twin s x.name x.at_ pa qa pn pc qn qc q wr (HQ.out wr HM.out))
      clear hx
      unfold str at *
      go_wp2_with fail
      go_at_call 38
      refine HE.out.mono ?_
      rintro e w1 ⟨rfl, hm1⟩
      have HM1 := Lib.hid (HM.out.trans hm1)
      clear hm1
      rcases hb : (x.name == s) with _ | _
      · have HT2 : Hid (idxF (L.take (i + 1)) s = none) := Lib.hid (by rw [HT.out]; simp only [hb]; rfl)
        clear hb
        go_wp2_with fail
        exact ⟨⟨i + 1, by omega, by go_num, HT2, HM1⟩, by simp [intOf]; omega⟩
      · have HT2 : Hid (idxF L s = some i) := Lib.hid (idxF_more (i := i + 1) (by rw [HT.out]; simp only [hb]; rfl))
        clear hb
        go_wp2_with fail
        go_ret
        refine ⟨?_, HM1.out⟩
        rw [HT2.out]
        rfl
    · obtain rfl : i = n := by omega
      have hpi : ¬ (i : Int) < (i : Int) := by omega
      have HT2 : Hid (idxF L s = none) := Lib.hid (by
        have := HI.out
        rw [HN.out, List.take_length] at this
        exact this)
      go_wp2_with fail
      go_ret
      refine ⟨?_, HM.out⟩
      rw [HT2.out]
      rfl
set_option maxRecDepth 100000 in
set_option maxHeartbeats 1000000 in
theorem index_main (L : List Fn) (S : Nat → Prop) (v : Value) (W : World) (hL : FsAt W S v L) :
    Calls Tryz.prog 65 #[v, .func (.func 42) #[] #[]] W fun e w => e = .returned (.int .i64 (optI (idxM L))) ∧ Mods None W w := by
  obtain ⟨a, n, c, rfl, hn, hnc, hcm, h0, hcell⟩ := hL
  have HN := Lib.hid hn
  have HC := Lib.hid (fun (w : World) (hm : Mods None W w) (i : Nat) (hi : i < n) => (by
    have hi2 : i < L.length := by omega
    obtain ⟨g, o, p, q, vq, e1, e2, e3, e4, e5, e6, e7, e8, e9⟩ := hcell i L[i] (List.getElem?_eq_getElem hi2)
    obtain ⟨pa, pc, rfl, _⟩ := ownsRow_slice e7.1
    obtain ⟨qa, qn, qc, rfl⟩ := e8.form
    exact ⟨L[i], g, o, pa, L[i].params.length, pc, qa, qn, qc, rfl, e1, List.getElem?_eq_getElem hi2, hm.cellOf e3 (fun f => f), hm.cellOf e4 (fun f => f), hm.cellOf e5 (fun f => f), hm.cellOf e6 (fun f => f)⟩ : ∃ x g o pa pn pc qa qn qc, isMain x.name pn = mainB x ∧ a = some ⟨g, o, none⟩ ∧ L[i]? = some x ∧ w.cell? ⟨g, o + i * 4, none⟩ = some (str x.name) ∧ w.cell? ⟨g, o + i * 4 + 1, none⟩ = some (.int .i64 x.at_) ∧ w.cell? ⟨g, o + i * 4 + 2, none⟩ = some (.slice pa pn pc) ∧ w.cell? ⟨g, o + i * 4 + 3, none⟩ = some (.slice qa qn qc)))
  unfold maxLen at hcm
  clear hn hcell
  unfold str at *
  go_enter Tryz.func65, Tryz.ntmps65
  go_wp2_with fail
  go_loopw [5, 8] (fun _ iv wr => ∃ i : Nat, i ≤ n ∧ iv = .int .i64 i ∧ Hid (idxM (L.take i) = none) ∧ Hid (Mods None W wr)) (fun _ iv _ => (n - intOf iv).toNat)
  case atStart => exact ⟨0, Nat.zero_le _, rfl, Lib.hid (by simp [idxM]), Lib.hid (Mods.refl _ _)⟩
  case round =>
    obtain ⟨i, hi, rfl, HI, HM⟩ := hrel
    by_cases hlt : i < n
    · obtain ⟨x, gg, o, pa, pn, pc, qa, qn, qc, hmb, rfl, hx, c1, c2, c3, c4⟩ := HC.out wr HM.out i hlt
      have hpi : (i : Int) < (n : Int) := by omega
      have HT := Lib.hid (idxM_take HI.out hx)
      have he := eq_main x.name x.at_ pa qa pn pc qn qc wr
      rw [hmb] at he
      have HE := Lib.hid he
      clear he
      clear hx hmb
      unfold str at *
      go_wp2_with fail
      go_at_call 42
      refine HE.out.mono ?_
      rintro e w1 ⟨rfl, hm1⟩
      have HM1 := Lib.hid (HM.out.trans hm1)
      clear hm1
      rcases hb : mainB x with _ | _
      · have HT2 : Hid (idxM (L.take (i + 1)) = none) := Lib.hid (by rw [HT.out]; simp only [hb]; rfl)
        clear hb
        go_wp2_with fail
        exact ⟨⟨i + 1, by omega, by go_num, HT2, HM1⟩, by simp [intOf]; omega⟩
      · have HT2 : Hid (idxM L = some i) := Lib.hid (idxM_more (i := i + 1) (by rw [HT.out]; simp only [hb]; rfl))
        clear hb
        go_wp2_with fail
        go_ret
        refine ⟨?_, HM1.out⟩
        rw [HT2.out]
        rfl
    · obtain rfl : i = n := by omega
      have hpi : ¬ (i : Int) < (i : Int) := by omega
      have HT2 : Hid (idxM L = none) := Lib.hid (by
        have := HI.out
        rw [HN.out, List.take_length] at this
        exact this)
      go_wp2_with fail
      go_ret
      refine ⟨?_, HM.out⟩
      rw [HT2.out]
      rfl
set_option maxRecDepth 100000 in
theorem has_twin (s : List UInt8) (L : List Fn) (S : Nat → Prop) (v : Value) (q : Nat) (W : World) (hq : W.cell? ⟨q, 0, none⟩ = some (str s)) (hL : FsAt W S v L) :
    Calls Tryz.prog 37 #[v, .func (.func 38) #[] #[.pointer (some ⟨q, 0, none⟩)]] W fun e w => e = .returned (.bool (L.any (fun g => g.name == s))) ∧ Mods None W w := by
  have HI := Lib.hid (index_twin s L S v q W hq hL)
  rw [← idxF_any L s]
  clear hL hq
  generalize idxF L s = o at HI ⊢
  go_enter Tryz.func37, Tryz.ntmps37
  go_wp2_with fail
  go_at_call 65
  refine HI.out.mono ?_
  rintro e w2 ⟨rfl, hm2⟩
  cases o with
  | none =>
    simp only [optI, Option.isSome_none]
    go_wp2_with fail
    go_ret
    exact ⟨rfl, hm2⟩
  | some i =>
    simp only [optI, Option.isSome_some]
    have hi : (decide ((0 : Int) ≤ (i : Int))) = true := by simp
    go_wp2_with fail
    go_ret
    refine ⟨?_, hm2⟩
    first | rfl | (simp)
set_option maxRecDepth 100000 in
theorem has_main  (L : List Fn) (S : Nat → Prop) (v : Value) (W : World) (hL : FsAt W S v L) :
    Calls Tryz.prog 37 #[v, .func (.func 42) #[] #[]] W fun e w => e = .returned (.bool (L.any mainB)) ∧ Mods None W w := by
  have HI := Lib.hid (index_main L S v W hL)
  rw [← idxM_any L]
  clear hL
  generalize idxM L = o at HI ⊢
  go_enter Tryz.func37, Tryz.ntmps37
  go_wp2_with fail
  go_at_call 65
  refine HI.out.mono ?_
  rintro e w2 ⟨rfl, hm2⟩
  cases o with
  | none =>
    simp only [optI, Option.isSome_none]
    go_wp2_with fail
    go_ret
    exact ⟨rfl, hm2⟩
  | some i =>
    simp only [optI, Option.isSome_some]
    have hi : (decide ((0 : Int) ≤ (i : Int))) = true := by simp
    go_wp2_with fail
    go_ret
    refine ⟨?_, hm2⟩
    first | rfl | (simp)
theorem FnAt.len4 {W : World} {S : Nat → Prop} {x : Fn} {cs : List Value} (h : FnAt W S x cs) : cs.length = 4 := by
  obtain ⟨p, q, vq, rfl, _⟩ := h
  rfl
theorem FnsAt.split {W : World} {S : Nat → Prop} : {l : List Fn} → {vs : List Value} → FnsAt W S l vs → (k : Nat) → k ≤ l.length → FnsAt W S (l.take k) (vs.take (4 * k)) ∧ FnsAt W S (l.drop k) (vs.drop (4 * k))
  | l, vs, h, 0, _ => by simpa [FnsAt] using h
  | [], vs, h, k + 1, hk => by simp at hk
  | x :: l, vs, h, k + 1, hk => by
    obtain ⟨cs, r, rfl, h1, h2⟩ := h
    have h4 := h1.len4
    obtain ⟨a1, a2⟩ := FnsAt.split h2 k (by simpa using hk)
    rw [show 4 * (k + 1) = cs.length + 4 * k by omega, List.take_length_add_append, List.drop_length_add_append]
    exact ⟨⟨cs, _, rfl, h1, a1⟩, a2⟩
theorem FnsAt.join {W : World} {S : Nat → Prop} : {l m : List Fn} → {vs us : List Value} → FnsAt W S l vs → FnsAt W S m us → FnsAt W S (l ++ m) (vs ++ us)
  | [], m, vs, us, h, h2 => by
    simp only [FnsAt] at h
    subst h
    exact h2
  | x :: l, m, vs, us, h, h2 => by
    obtain ⟨cs, r, rfl, h3, h4⟩ := h
    exact ⟨cs, r ++ us, by simp, h3, FnsAt.join h4 h2⟩
theorem FnsAt.len {W : World} {S : Nat → Prop} : {l : List Fn} → {vs : List Value} → FnsAt W S l vs → vs.length = 4 * l.length
  | [], vs, h => by
    simp only [FnsAt] at h
    subst h
    rfl
  | x :: l, vs, h => by
    obtain ⟨cs, r, rfl, h3, h4⟩ := h
    have := h3.len4
    have := FnsAt.len h4
    simp only [List.length_append, List.length_cons]
    omega
theorem FnsAt.one {W : World} {S : Nat → Prop} : {l : List Fn} → {vs : List Value} → FnsAt W S l vs → ∀ u ∈ vs, u.oneCell' = true
  | [], vs, h => by
    simp only [FnsAt] at h
    subst h
    exact fun u hu => nomatch hu
  | x :: l, vs, h => by
    obtain ⟨cs, r, rfl, h3, h4⟩ := h
    obtain ⟨oa, on, oc, ob, om, od, rfl⟩ := h3.shape
    intro u hu
    rcases List.mem_append.1 hu with hu | hu
    · simp only [List.mem_cons, List.not_mem_nil, or_false] at hu
      rcases hu with rfl | rfl | rfl | rfl <;> rfl
    · exact FnsAt.one h4 u hu
theorem FnsAt.get {W : World} {S : Nat → Prop} : {l : List Fn} → {vs : List Value} → FnsAt W S l vs → (i : Nat) → (x : Fn) → l[i]? = some x → ∃ cs, FnAt W S x cs ∧ ∀ j, j < 4 → vs[i * 4 + j]? = cs[j]?
  | [], vs, h, i, x, hx => by simp at hx
  | a :: l, vs, h, i, x, hx => by
    obtain ⟨cs, r, rfl, h1, h2⟩ := h
    have h4 := h1.len4
    cases i with
    | zero =>
      simp only [List.getElem?_cons_zero, Option.some.injEq] at hx
      subst hx
      refine ⟨cs, h1, fun j hj => ?_⟩
      rw [List.getElem?_append_left (by omega)]
      congr 1
      omega
    | succ i =>
      obtain ⟨ds, h3, h5⟩ := FnsAt.get h2 i x (by simpa using hx)
      refine ⟨ds, h3, fun j hj => ?_⟩
      rw [List.getElem?_append_right (by omega), h4, ← h5 j hj]
      congr 1
      omega
theorem fs_of_row {W : World} {S : Nat → Prop} {B : Nat} {v : Value} {l : List Fn} {vs : List Value} (h : W.ownsRow B 84 4 v l.length vs) (hf : FnsAt W S l vs) (hS : ∀ k, v.ownBlock = some k → ¬ S k) : FsAt W S v l := by
  rcases h.2 with ⟨rfl, h0⟩ | ⟨g, cap, cur, rfl, _, hg, h3, h4, _⟩
  · have hl : l = [] := List.eq_nil_of_length_eq_zero h0
    subst hl
    exact ⟨none, 0, 0, rfl, rfl, Nat.le_refl _, by decide, fun _ => rfl, fun i p hp => by simp at hp⟩
  · have hc := h.cells (g := g) rfl
    refine ⟨some ⟨g, 0, none⟩, l.length, cap, rfl, rfl, h3, h4, (fun h => by cases h), fun i x hx => ?_⟩
    obtain ⟨cs, h5, h6⟩ := hf.get i x hx
    obtain ⟨p, q, vq, rfl, h7, h8, h9⟩ := h5
    have e0 := hc _ _ (h6 0 (by omega))
    have e1 := hc _ _ (h6 1 (by omega))
    have e2 := hc _ _ (h6 2 (by omega))
    have e3 := hc _ _ (h6 3 (by omega))
    refine ⟨g, 0, p, q, vq, rfl, hS g rfl, ?_, ?_, ?_, ?_, h7, h8, h9⟩
    · simpa [Addr.add_lit] using e0
    · simpa [Addr.add_lit] using e1
    · simpa [Addr.add_lit] using e2
    · simpa [Addr.add_lit] using e3
end Go.Proofs.YtnicpmoanjddbaaGreatDoor.TreeP

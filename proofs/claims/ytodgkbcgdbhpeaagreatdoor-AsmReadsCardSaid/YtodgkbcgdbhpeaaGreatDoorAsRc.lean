/- The reference's reading of a text: Assemble. Conditions: the tables lie; Fine lies. -/
import Derived.Test.YtodgkbcgdbhpeaaGreatDoorAsRp
import Derived.Test.YtodgkbcgdbhpeaaGreatDoorAsmC
import Derived.Deep.RegionLaw
import Derived.Laws.OwnMore
import Derived.Deep.AppendLies
namespace Go.Proofs.YtodgkbcgdbhpeaaGreatDoor.AsmP
open Go.RowKit Go.Shelf Go.Proofs.YtodgkbcgdbhpeaaGreatDoor.WordP Go.Proofs.YtodgkbcgdbhpeaaGreatDoor.Wo
set_option linter.unusedVariables false
set_option linter.unusedSimpArgs false
/-- The variable Fine lies. -/
structure FineAt (W : World) : Prop where
  c0 : W.cell? ⟨0, 0, none⟩ = some (.int .i64 0)
  c1 : W.cell? ⟨0, 1, none⟩ = some (.int .i64 (-1))
theorem FineAt.mods {S : Nat → Prop} {W W' : World} (h : FineAt W) (hm : Mods S W W') (hn : ¬ S 0) : FineAt W' := ⟨hm.cellOf h.c0 hn, hm.cellOf h.c1 hn⟩
/-- What Assemble answers. -/
def AsmB (s : List UInt8) (W : World) (e : Ending) (w : World) : Prop :=
  (match asmR s with
  | .ok l => ∃ v, e = .returned (.tuple #[v, .agg #[.int .i64 0, .int .i64 (-1)]]) ∧ InsRow w v l
  | .error (c, p) => e = .returned (.tuple #[.slice none 0 0, .agg #[.int .i64 c, .int .i64 (p : Int)]])) ∧ Mods None W w
theorem int_info : (Tryz.prog.info? 3).map (fun i => (i.zero, i.size, i.bytes)) = some (some (.int .i64 0), 1, 8) := by kernel_rfl
/-- Three rows of their own. -/
structure R3 (B : Nat) (W : World) (lv tv nv : Value) (ni nt nn : Nat) (xi xt xn : List Value) : Prop where
  ins : W.ownsRow B 30 5 lv ni xi
  tos : W.ownsRow B 9 1 tv nt xt
  ats : W.ownsRow B 3 1 nv nn xn
  apT : ∀ k, lv.ownBlock = some k → tv.ownBlock ≠ some k
  apN : ∀ k, lv.ownBlock = some k → nv.ownBlock ≠ some k
  apU : ∀ k, tv.ownBlock = some k → nv.ownBlock ≠ some k
theorem R3.next {S : Nat → Prop} {B : Nat} {W W' : World} {lv tv nv : Value} {ni nt nn : Nat} {xi xt xn : List Value} (H : R3 B W lv tv nv ni nt nn xi xt xn) (hm : Mods S W W') (hS : ∀ k, S k → B ≤ k → W.heap.size ≤ k) : R3 B W' lv tv nv ni nt nn xi xt xn :=
  ⟨hm.ownsRow H.ins (fun k hk f => by have := H.ins.lt k hk; have := hS k f this.1; omega), hm.ownsRow H.tos (fun k hk f => by have := H.tos.lt k hk; have := hS k f this.1; omega), hm.ownsRow H.ats (fun k hk f => by have := H.ats.lt k hk; have := hS k f this.1; omega), H.apT, H.apN, H.apU⟩
theorem grown_mods {W W' : World} {v : Value} (hg : W.grownBy W' v.ownBlock) : Mods (fun k => v.ownBlock = some k) W W' := Mods.of_grownBy hg (fun k hk _ => hk)
theorem R3.app1 {B : Nat} {W W' : World} {lv tv nv v' : Value} {ni nt nn n' : Nat} {xi xt xn x' : List Value} (H : R3 B W lv tv nv ni nt nn xi xt xn) (hown : W'.ownsRow B 30 5 v' n' x') (hg : W.grownBy W' lv.ownBlock) (hl : v'.ownBlock = lv.ownBlock ∨ v'.ownBlock = some W.heap.size) :
    R3 B W' v' tv nv n' nt nn x' xt xn ∧ Mods (fun k => B ≤ k) W W' := by
  have hm := grown_mods hg
  refine ⟨⟨hown, hm.ownsRow H.tos (fun k hk f => H.apT k f hk), hm.ownsRow H.ats (fun k hk f => H.apN k f hk), fun k hk f => ?_, fun k hk f => ?_, H.apU⟩, hm.mono (fun k _ f => (H.ins.lt k f).1)⟩
  · rcases hl with e | e
    · exact H.apT k (by rw [← e]; exact hk) f
    · rw [e] at hk; have := (H.tos.lt k f).2; have := Option.some.inj hk; omega
  · rcases hl with e | e
    · exact H.apN k (by rw [← e]; exact hk) f
    · rw [e] at hk; have := (H.ats.lt k f).2; have := Option.some.inj hk; omega
theorem R3.app2 {B : Nat} {W W' : World} {lv tv nv v' : Value} {ni nt nn n' : Nat} {xi xt xn x' : List Value} (H : R3 B W lv tv nv ni nt nn xi xt xn) (hown : W'.ownsRow B 9 1 v' n' x') (hg : W.grownBy W' tv.ownBlock) (hl : v'.ownBlock = tv.ownBlock ∨ v'.ownBlock = some W.heap.size) :
    R3 B W' lv v' nv ni n' nn xi x' xn ∧ Mods (fun k => B ≤ k) W W' := by
  have hm := grown_mods hg
  refine ⟨⟨hm.ownsRow H.ins (fun k hk f => H.apT k hk f), hown, hm.ownsRow H.ats (fun k hk f => H.apU k f hk), fun k hk f => ?_, H.apN, fun k hk f => ?_⟩, hm.mono (fun k _ f => (H.tos.lt k f).1)⟩
  · rcases hl with e | e
    · exact H.apT k hk (by rw [← e]; exact f)
    · rw [e] at f; have := (H.ins.lt k hk).2; have := Option.some.inj f; omega
  · rcases hl with e | e
    · exact H.apU k (by rw [← e]; exact hk) f
    · rw [e] at hk; have := (H.ats.lt k f).2; have := Option.some.inj hk; omega
theorem R3.app3 {B : Nat} {W W' : World} {lv tv nv v' : Value} {ni nt nn n' : Nat} {xi xt xn x' : List Value} (H : R3 B W lv tv nv ni nt nn xi xt xn) (hown : W'.ownsRow B 3 1 v' n' x') (hg : W.grownBy W' nv.ownBlock) (hl : v'.ownBlock = nv.ownBlock ∨ v'.ownBlock = some W.heap.size) :
    R3 B W' lv tv v' ni nt n' xi xt x' ∧ Mods (fun k => B ≤ k) W W' := by
  have hm := grown_mods hg
  refine ⟨⟨hm.ownsRow H.ins (fun k hk f => H.apN k hk f), hm.ownsRow H.tos (fun k hk f => H.apU k hk f), hown, H.apT, fun k hk f => ?_, fun k hk f => ?_⟩, hm.mono (fun k _ f => (H.ats.lt k f).1)⟩
  · rcases hl with e | e
    · exact H.apN k hk (by rw [← e]; exact f)
    · rw [e] at f; have := (H.ins.lt k hk).2; have := Option.some.inj f; omega
  · rcases hl with e | e
    · exact H.apU k hk (by rw [← e]; exact f)
    · rw [e] at f; have := (H.tos.lt k hk).2; have := Option.some.inj f; omega
def insR (l : List (Ins × List UInt8 × Nat)) : List Value := insRow (l.map (·.1))
def tosR (l : List (Ins × List UInt8 × Nat)) : List Value := l.map fun y => str y.2.1
def atsR (l : List (Ins × List UInt8 × Nat)) : List Value := l.map fun y => .int .i64 (y.2.2 : Int)
theorem insR_add (l : List (Ins × List UInt8 × Nat)) (x : Ins) (tgt : List UInt8) (an : Nat) : insR (l ++ [(x, tgt, an)]) = insR l ++ [.int .i64 x.op, .int .i64 x.rd, .int .i64 x.ra, .int .i64 x.rb, .int .i64 x.n] := by
  unfold insR
  rw [List.map_append, List.map_singleton, insRow_add]
theorem tosR_add (l : List (Ins × List UInt8 × Nat)) (x : Ins) (tgt : List UInt8) (an : Nat) : tosR (l ++ [(x, tgt, an)]) = tosR l ++ [str tgt] := by unfold tosR; simp
theorem atsR_add (l : List (Ins × List UInt8 × Nat)) (x : Ins) (tgt : List UInt8) (an : Nat) : atsR (l ++ [(x, tgt, an)]) = atsR l ++ [.int .i64 (an : Int)] := by unfold atsR; simp
/-- Where the first loop stands. -/
structure LnAt (W0 : World) (h : Nat) (ls : List (List UInt8)) (t : TxS) (lv tv nv : Value) (W : World) : Prop where
  res : Blk W h [.int .i64 0, .int .i64 0] 40
  plc : ∃ n, SMap W (h + 1) n (placeF t.places) ∧ n ≤ t.places.length
  lns : Blk W (h + 2) (ls.map str) 9
  rows : R3 (h + 3) W lv tv nv t.l.length t.l.length t.l.length (insR t.l) (tosR t.l) (atsR t.l)
  mods : Mods None W0 W
theorem LnAt.next {S : Nat → Prop} {W0 W W' : World} {h : Nat} {ls : List (List UInt8)} {t : TxS} {lv tv nv : Value} (H : LnAt W0 h ls t lv tv nv W) (hm : Mods S W W') (hS : ∀ k, S k → W.heap.size ≤ k) : LnAt W0 h ls t lv tv nv W' := by
  obtain ⟨n, h1, h2⟩ := H.plc
  have no : ∀ k, k < W.heap.size → ¬ S k := fun k hk f => by have := hS k f; omega
  exact ⟨H.res.mods hm (no _ H.res.lt), ⟨n, h1.mods hm (no _ h1.lt), h2⟩, H.lns.mods hm (no _ H.lns.lt), H.rows.next hm (fun k f _ => hS k f), H.mods.trans' hm (fun k hk hw => by have := hS k hk; have := H.mods.size; omega)⟩
theorem LnAt.rest {W0 W W' : World} {h : Nat} {ls : List (List UInt8)} {t t' : TxS} {lv tv nv lv' tv' nv' : Value} (H : LnAt W0 h ls t lv tv nv W) (h0 : W0.heap.size = h) (hm : Mods (fun k => h + 3 ≤ k) W W') (hp : t'.places = t.places)
    (hr : R3 (h + 3) W' lv' tv' nv' t'.l.length t'.l.length t'.l.length (insR t'.l) (tosR t'.l) (atsR t'.l)) : LnAt W0 h ls t' lv' tv' nv' W' := by
  obtain ⟨n, h1, h2⟩ := H.plc
  exact ⟨H.res.mods hm (show ¬ (h + 3 ≤ h) by omega), ⟨n, by rw [hp]; exact h1.mods hm (show ¬ (h + 3 ≤ h + 1) by omega), by rw [hp]; exact h2⟩, H.lns.mods hm (show ¬ (h + 3 ≤ h + 2) by omega), hr, H.mods.trans' hm (fun k hk hw => by have : h + 3 ≤ k := hk; omega)⟩
theorem lines_next {ls : List (List UInt8)} {i : Nat} {t t' : TxS} {x : List UInt8} (h : linesR (ls.take i) 0 ⟨[], []⟩ = .ok t) (hx : ls[i]? = some x) (ha : addR x i t = .ok t') : linesR (ls.take (i + 1)) 0 ⟨[], []⟩ = .ok t' := by
  obtain ⟨hi, rfl⟩ := List.getElem?_eq_some_iff.1 hx
  rw [← List.take_append_getElem hi, linesR_app, h]
  simp only [List.length_take, Nat.min_eq_left (Nat.le_of_lt hi), Nat.zero_add, linesR]
  rw [ha]
theorem lines_stop {ls : List (List UInt8)} {i : Nat} {t : TxS} {x : List UInt8} {c : Int} (h : linesR (ls.take i) 0 ⟨[], []⟩ = .ok t) (hx : ls[i]? = some x) (ha : addR x i t = .error c) : linesR ls 0 ⟨[], []⟩ = .error (c, i) := by
  obtain ⟨hi, rfl⟩ := List.getElem?_eq_some_iff.1 hx
  have hl : (ls.take i).length = i := by rw [List.length_take, Nat.min_eq_left (Nat.le_of_lt hi)]
  have := lines_fail (pre := ls.take i) (all := ls) (x := ls[i]) (t := t) (c := c) (by rw [List.take_append_getElem hi]; exact List.take_prefix _ _) h (by rw [hl]; exact ha)
  rw [hl] at this
  exact this
theorem lines_room {ls : List (List UInt8)} {i : Nat} {t : TxS} (h : linesR (ls.take i) 0 ⟨[], []⟩ = .ok t) : t.l.length ≤ i ∧ t.places.length ≤ i ∧ Sane t := by
  have h1 := linesR_len _ _ _ _ h
  have h2 : (ls.take i).length ≤ i := by rw [List.length_take]; exact Nat.min_le_left _ _
  simp only [List.length_nil] at h1
  exact ⟨by omega, by omega, linesR_sane _ _ _ _ h ⟨by simp, by simp⟩⟩
theorem set_res {w : World} {h : Nat} {a b : Value} {t : TypeId} (H : Blk w h [a, b] t) (c d : Value) : Blk ((w.setCell ⟨h, 0, none⟩ c).setCell ⟨h, 1, none⟩ d) h [c, d] t ∧ Mods (fun k => k = h) w ((w.setCell ⟨h, 0, none⟩ c).setCell ⟨h, 1, none⟩ d) :=
  ⟨(H.set 0 c).set 1 d, ((Mods.refl (fun k => k = h) w).setCell (p := ⟨h, 0, none⟩) (fun _ => rfl) _).setCell (p := ⟨h, 1, none⟩) (fun _ => rfl) _⟩
theorem colon_cut {u : List UInt8} (h : Lib.hasSuffix u [58] = true) : 0 < u.length ∧ u[u.length - 1]? = some 58 ∧ Lib.trimSuffix u [58] = u.take (u.length - 1) := by
  rw [hasSuffix_one, beq_iff_eq] at h
  obtain ⟨p, rfl⟩ := List.getLast?_eq_some_iff.1 h
  refine ⟨by simp, by simp, ?_⟩
  rw [trimSuffix_app]
  simp
theorem colon_none {u : List UInt8} (h0 : u ≠ []) (h : Lib.hasSuffix u [58] = false) : 0 < u.length ∧ ∃ c, u[u.length - 1]? = some c ∧ c ≠ 58 := by
  have hl : 0 < u.length := List.length_pos_iff.2 h0
  refine ⟨hl, u[u.length - 1]'(by omega), List.getElem?_eq_getElem (by omega), fun e => ?_⟩
  rw [hasSuffix_one, beq_eq_false_iff_ne] at h
  apply h
  rw [List.getLast?_eq_getElem?, List.getElem?_eq_getElem (by omega), e]
theorem asm_err {s : List UInt8} {W w : World} {c : Int} {p : Nat} (h : asmR s = .error (c, p)) (hm : Mods None W w) : AsmB s W (.returned (.tuple #[.slice none 0 0, .agg #[.int .i64 c, .int .i64 (p : Int)]])) w := by
  unfold AsmB
  rw [h]
  exact ⟨rfl, hm⟩
theorem asmR_lines {s : List UInt8} {ls : List (List UInt8)} (hl : ls = splitL 10 s) {e : Int × Nat} (h : linesR ls 0 ⟨[], []⟩ = .error e) : asmR s = .error e := by
  unfold asmR
  rw [← hl, h]
theorem LnAt.put {W0 W W' : World} {h : Nat} {ls : List (List UInt8)} {t : TxS} {lv tv nv : Value} (H : LnAt W0 h ls t lv tv nv W) (h0 : W0.heap.size = h) (hm : Mods (· = h + 1) W W') {v : List UInt8} {n : Nat} (hs : SMap W' (h + 1) n (fun y => if y = v then some (t.l.length : Int) else placeF t.places y)) (hn : n ≤ t.places.length + 1) :
    LnAt W0 h ls { t with places := (v, t.l.length) :: t.places } lv tv nv W' :=
  ⟨H.res.mods hm (show ¬ (h = h + 1) by omega), ⟨n, by rw [placeF_cons]; exact hs, by simp only [List.length_cons]; exact hn⟩, H.lns.mods hm (show ¬ (h + 2 = h + 1) by omega), H.rows.next hm (fun k f hk => by have : k = h + 1 := f; omega), H.mods.trans' hm (fun k hk hw => by have : k = h + 1 := hk; omega)⟩
theorem ln_start (W : World) (h : Nat) (hh : h = W.heap.size) (ls : List (List UInt8)) : LnAt W h ls ⟨[], []⟩ (.slice none 0 0) (.slice none 0 0) (.slice none 0 0) (((W.alloc (.cells #[.int .i64 0, .int .i64 0] 40)).alloc (.map #[] 0)).alloc (.cells (ls.map str).toArray 9)) := by
  obtain ⟨W1, h1⟩ : ∃ q, q = W.alloc (.cells #[.int .i64 0, .int .i64 0] 40) := ⟨_, rfl⟩
  obtain ⟨W2, h2⟩ : ∃ q, q = W1.alloc (.map #[] 0) := ⟨_, rfl⟩
  obtain ⟨W3, h3⟩ : ∃ q, q = W2.alloc (.cells (ls.map str).toArray 9) := ⟨_, rfl⟩
  rw [← h1, ← h2, ← h3]
  have e1 : W1.heap.size = h + 1 := by rw [h1, hh]; simp
  have e2 : W2.heap.size = h + 2 := by rw [h2]; simp [e1]
  have b0 : Blk W1 h [.int .i64 0, .int .i64 0] 40 := by rw [h1, hh]; exact Blk.new W _ _
  have b1 : SMap W2 (h + 1) 0 (fun _ => none) := by rw [h2, ← e1]; exact SMap.new W1
  have b2 : Blk W3 (h + 2) (ls.map str) 9 := by
    rw [h3, ← e2]
    have := Blk.new W2 (ls.map str).toArray 9
    simpa using this
  have m2 : Mods None W2 W3 := by rw [h3]; exact (Mods.refl _ _).alloc _
  have m1 : Mods None W1 W3 := Mods.trans (by rw [h2]; exact (Mods.refl _ _).alloc _) m2
  have m0 : Mods None W W3 := Mods.trans (by rw [h1]; exact (Mods.refl _ _).alloc _) m1
  exact ⟨b0.mods m1 (fun f => f), ⟨0, b1.mods m2 (fun f => f), Nat.le_refl _⟩, b2, ⟨World.ownsRow_nil _ _ _ _, World.ownsRow_nil _ _ _ _, World.ownsRow_nil _ _ _ _, fun k hk => (by cases hk), fun k hk => (by cases hk), fun k hk => (by cases hk)⟩, m0⟩
theorem num_one (n : Int) : ∀ u ∈ [Value.int .i64 n], u.oneCell' = true := fun u hu => by
  rw [List.mem_singleton] at hu
  rw [hu]
  rfl
/-- The second loop: where it stands. -/
structure OtAt (W0 : World) (h : Nat) (t : TxS) (i : Nat) (acc : List Ins) (lv tv nv : Value) (W : World) : Prop where
  res : Blk W h [.int .i64 0, .int .i64 0] 40
  plc : ∃ n, SMap W (h + 1) n (placeF t.places)
  rows : R3 (h + 3) W lv tv nv t.l.length t.l.length t.l.length (insRow (acc ++ (t.l.drop i).map (·.1))) (tosR t.l) (atsR t.l)
  left : outR t.places t.l 0 = (match outR t.places (t.l.drop i) i with | .ok l => .ok (acc ++ l) | .error e => .error e)
  len : acc.length = i
  mods : Mods None W0 W
theorem row_cell {W : World} {B : Nat} {e : TypeId} {size n : Nat} {oa : Option Addr} {oc : Nat} {xs : List Value} (h : W.ownsRow B e size (.slice oa n oc) n xs) (hn : 0 < n) :
    ∃ g, oa = some ⟨g, 0, none⟩ ∧ B ≤ g ∧ g < W.heap.size ∧ (∀ j, j < n * size → W.cell? ⟨g, j, none⟩ = xs[j]?) ∧ ∀ j, W.frozen? ⟨g, j, none⟩ = false := by
  obtain ⟨g, cap, hv, h1, h2⟩ := h.form hn
  simp only [Value.slice.injEq, true_and] at hv
  obtain ⟨rfl, rfl⟩ := hv
  exact ⟨g, rfl, h1, h2, fun j hj => h.cellAt j hj, fun j => h.frozenAt j⟩
theorem insRow_get (r : List Ins) (x : Ins) {k : Nat} (hk : k < 5) : (acc : List Ins) → (insRow (acc ++ x :: r))[acc.length * 5 + k]? = (instCells x.op x.rd x.ra x.rb x.n).toList[k]?
  | [] => by
    unfold insRow instCells
    rw [List.nil_append, List.flatMap_cons, List.getElem?_append_left (by simp; omega)]
    simp
  | a :: acc => by
    have ih := insRow_get r x hk acc
    have hl : (instCells a.op a.rd a.ra a.rb a.n).toList.length = 5 := rfl
    have e : insRow (a :: acc ++ x :: r) = (instCells a.op a.rd a.ra a.rb a.n).toList ++ insRow (acc ++ x :: r) := by unfold insRow; rw [List.cons_append, List.flatMap_cons]
    rw [e, List.getElem?_append_right (by rw [hl]; simp only [List.length_cons]; omega), hl, show (a :: acc).length * 5 + k - 5 = acc.length * 5 + k by simp only [List.length_cons]; omega]
    exact ih
theorem insRow_set (r : List Ins) (x : Ins) (v : Int) : (acc : List Ins) → (insRow (acc ++ x :: r)).set (acc.length * 5 + 4) (.int .i64 v) = insRow (acc ++ { x with n := v } :: r)
  | [] => by
    unfold insRow instCells
    simp
  | a :: acc => by
    have ih := insRow_set r x v acc
    have hl : (instCells a.op a.rd a.ra a.rb a.n).toList.length = 5 := rfl
    have e : ∀ y : Ins, insRow (a :: acc ++ y :: r) = (instCells a.op a.rd a.ra a.rb a.n).toList ++ insRow (acc ++ y :: r) := fun y => by unfold insRow; rw [List.cons_append, List.flatMap_cons]
    rw [e, e, List.set_append_right _ _ (by rw [hl]; simp only [List.length_cons]; omega), hl, show (a :: acc).length * 5 + 4 - 5 = acc.length * 5 + 4 by simp only [List.length_cons]; omega, ih]
theorem OtAt.opened {W0 W : World} {h : Nat} {t : TxS} {j : Nat} {acc : List Ins} {lv tv nv : Value} (H : OtAt W0 h t j acc lv tv nv W) {y : Ins × List UInt8 × Nat} (hy : t.l[j]? = some y) :
    R3 (h + 3) W lv tv nv t.l.length t.l.length t.l.length (insRow (acc ++ y.1 :: (t.l.drop (j + 1)).map (·.1))) (tosR t.l) (atsR t.l) := by
  obtain ⟨hj, rfl⟩ := List.getElem?_eq_some_iff.1 hy
  have := H.rows
  rw [List.drop_eq_getElem_cons hj, List.map_cons] at this
  exact this
theorem OtAt.stop {W0 W : World} {h : Nat} {t : TxS} {j : Nat} {acc : List Ins} {lv tv nv : Value} (H : OtAt W0 h t j acc lv tv nv W) {y : Ins × List UInt8 × Nat} (hy : t.l[j]? = some y) {e : Int × Nat} (ha : aimed t.places y j = .error e) : outR t.places t.l 0 = .error e := by
  obtain ⟨hi, rfl⟩ := List.getElem?_eq_some_iff.1 hy
  rw [H.left, List.drop_eq_getElem_cons hi, outR, ha]
theorem OtAt.step {W0 W W' : World} {h : Nat} {t : TxS} {j : Nat} {acc : List Ins} {lv tv nv : Value} (H : OtAt W0 h t j acc lv tv nv W) (h0 : W0.heap.size = h) (hm : Mods (fun k => h + 3 ≤ k) W W') {y : Ins × List UInt8 × Nat} (hy : t.l[j]? = some y) {x : Ins} (ha : aimed t.places y j = .ok x)
    (hr : R3 (h + 3) W' lv tv nv t.l.length t.l.length t.l.length (insRow (acc ++ x :: (t.l.drop (j + 1)).map (·.1))) (tosR t.l) (atsR t.l)) : OtAt W0 h t (j + 1) (acc ++ [x]) lv tv nv W' := by
  obtain ⟨n, h1⟩ := H.plc
  refine ⟨H.res.mods hm (show ¬ (h + 3 ≤ h) by omega), ⟨n, h1.mods hm (show ¬ (h + 3 ≤ h + 1) by omega)⟩, by rw [List.append_assoc]; exact hr, ?_, by rw [List.length_append, H.len]; rfl, H.mods.trans' hm (fun k hk hw => by have : h + 3 ≤ k := hk; omega)⟩
  obtain ⟨hi, rfl⟩ := List.getElem?_eq_some_iff.1 hy
  rw [H.left, List.drop_eq_getElem_cons hi, outR, ha]
  simp only
  cases outR t.places (t.l.drop (j + 1)) (j + 1) with
  | ok l => simp
  | error e => rfl
theorem LnAt.second {W0 W : World} {h : Nat} {ls : List (List UInt8)} {t : TxS} {lv tv nv : Value} (H : LnAt W0 h ls t lv tv nv W) : OtAt W0 h t 0 [] lv tv nv W := by
  obtain ⟨n, h1, -⟩ := H.plc
  refine ⟨H.res, ⟨n, h1⟩, H.rows, ?_, rfl, H.mods⟩
  rw [List.drop_zero]
  cases outR t.places t.l 0 <;> simp
theorem asmR_out {s : List UInt8} {ls : List (List UInt8)} (hl : ls = splitL 10 s) {t : TxS} (h : linesR ls 0 ⟨[], []⟩ = .ok t) : asmR s = outR t.places t.l 0 := by
  unfold asmR
  rw [← hl, h]
end Go.Proofs.YtodgkbcgdbhpeaaGreatDoor.AsmP

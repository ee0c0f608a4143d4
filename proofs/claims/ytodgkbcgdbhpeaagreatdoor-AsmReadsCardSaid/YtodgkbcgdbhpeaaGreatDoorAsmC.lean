/- A text is read, line by line, and told: asm.Assemble. Conditions: the tables lie. -/
import Derived.Test.YtodgkbcgdbhpeaaGreatDoorAsmD
import Derived.Test.YtodgkbcgdbhpeaaGreatDoorAsmQ
namespace Go.Proofs.YtodgkbcgdbhpeaaGreatDoor.AsmP
open Go.RowKit Go.Shelf Go.Proofs.YtodgkbcgdbhpeaaGreatDoor.WordP Go.Proofs.YtodgkbcgdbhpeaaGreatDoor.Wo Go.Proofs.YtodgkbcgdbhpeaaGreatDoor.RangeP
set_option linter.unusedVariables false
set_option linter.unusedSimpArgs false
attribute [local go_sem] Oper.semAt_some
theorem linesR_app (b : List (List UInt8)) : (a : List (List UInt8)) → (i : Nat) → (t : TxS) → linesR (a ++ b) i t = match linesR a i t with
    | .ok t' => linesR b (i + a.length) t'
    | .error e => .error e
  | [], i, t => by simp [linesR]
  | x :: a, i, t => by
    rw [List.cons_append, linesR, linesR]
    cases addR x i t with
    | error e => rfl
    | ok t' =>
      simp only
      rw [linesR_app b a (i + 1) t', List.length_cons, show i + 1 + a.length = i + (a.length + 1) by omega]
theorem addR_len {s : List UInt8} {i : Nat} {t t' : TxS} (h : addR s i t = .ok t') : t'.l.length ≤ t.l.length + 1 ∧ t'.places.length ≤ t.places.length + 1 := by
  unfold addR at h
  split at h
  · cases h; omega
  · split at h
    · cases h
    · cases h; simp
  · cases h; simp
  · cases h
theorem linesR_len : (a : List (List UInt8)) → (i : Nat) → (t t' : TxS) → linesR a i t = .ok t' → t'.l.length ≤ t.l.length + a.length ∧ t'.places.length ≤ t.places.length + a.length
  | [], i, t, t', h => by
    simp only [linesR] at h
    cases h
    simp
  | x :: a, i, t, t', h => by
    rw [linesR] at h
    cases hx : addR x i t with
    | error e => rw [hx] at h; cases h
    | ok t1 =>
      rw [hx] at h
      have h1 := addR_len hx
      have h2 := linesR_len a (i + 1) t1 t' h
      rw [List.length_cons]
      omega
theorem split_seq (s : List UInt8) (c : UInt8) (w : World) : Calls Tryz.prog 28 #[str s, .string ⟨#[c]⟩] w fun e w' => e = .returned (.func (.func 84) #[] #[.pointer (some ⟨w.heap.size + 1, 0, none⟩), .pointer (some ⟨w.heap.size, 0, none⟩), .pointer (some ⟨w.heap.size + 2, 0, none⟩)]) ∧
      w' = ((w.alloc (.cells #[str s] 9)).alloc (.cells #[.string ⟨#[c]⟩] 9)).alloc (.cells #[.int .i64 0] 3) := by
  have h : Calls Tryz.prog 51 #[str s, .string ⟨#[c]⟩, .int .i64 0] w fun e w' => e = .returned (.func (.func 84) #[] #[.pointer (some ⟨w.heap.size + 1, 0, none⟩), .pointer (some ⟨w.heap.size, 0, none⟩), .pointer (some ⟨w.heap.size + 2, 0, none⟩)]) ∧
      w' = ((w.alloc (.cells #[str s] 9)).alloc (.cells #[.string ⟨#[c]⟩] 9)).alloc (.cells #[.int .i64 0] 3) := by
    unfold str
    go_enter Tryz.func51, Tryz.ntmps51
    go_wp2_with fail
    go_ret
    exact ⟨rfl, rfl⟩
  have H := Lib.hid h
  clear h
  unfold str at H ⊢
  go_enter Tryz.func28, Tryz.ntmps28
  go_wp2_with fail
  refine H.out.mono ?_
  rintro e w' ⟨rfl, rfl⟩
  go_wp2_with fail
  go_ret
  exact ⟨rfl, rfl⟩
theorem ins_info : (Tryz.prog.info? 30).map (fun i => (i.zero, i.size, i.bytes)) = some (some (.agg #[.int .i64 0, .int .i64 0, .int .i64 0, .int .i64 0, .int .i64 0]), 5, 40) := by kernel_rfl
theorem mk_places (w : World) : (Instr.makeMap 63 none).run Tryz.prog w = .ok (.map (some w.heap.size)) (w.alloc (.map #[] 0)) := by
  simp [Instr.makeMap, run_underlying Tryz.underlying63]
/-- The blocks that are kept: all ahead of the loop's end but the text and its places. -/
def KeptK (h : Nat) (k : Nat) : Prop := k < h + 11 ∧ k ≠ h + 3 ∧ k ≠ h + 2
/-- What Assemble answers. -/
def InsRow (W : World) (v : Value) (l : List Ins) : Prop := ∃ B, W.ownsRow B 30 5 v l.length (l.flatMap fun x => (instCells x.op x.rd x.ra x.rb x.n).toList)
def AsmA (s : List UInt8) (W : World) (e : Ending) (w : World) : Prop :=
  (match asmR s with
  | .ok l => ∃ v, e = .returned (.tuple #[v, .nilIface]) ∧ InsRow w v l
  | .error (c, p) => ∃ g, e = .returned (.tuple #[.slice none 0 0, .iface 71 (.pointer (some ⟨g, 0, none⟩))]) ∧ W.heap.size ≤ g ∧ Blk w g [.int .i64 c, .int .i64 (p : Int)] 72) ∧ Mods None W w
theorem TxAt.kept {S : Nat → Prop} {W W' : World} {K : Nat → Prop} {tb mb : Nat} {t : TxS} (h : TxAt W K tb mb t) (hm : Mods S W W') (hS : ∀ k, S k → K k) : TxAt W' K tb mb t := by
  obtain ⟨⟨lv, h1, h2, h3⟩, ⟨n, h4, h5⟩, h6, h7⟩ := h
  exact ⟨⟨lv, h1.mods hm (fun f => h6.1 (hS _ f)), hm.ownsRow h2 (fun k hk f => (h3 k hk).1 (hS _ f)), h3⟩, ⟨n, h4.mods hm (fun f => h6.2.1 (hS _ f)), h5⟩, h6, fun k hk => Nat.lt_of_lt_of_le (h7 k hk) hm.size⟩
theorem TxAt.turn {W W' : World} {K : Nat → Prop} {tb mb l : Nat} {t : TxS} {o : Obj} (h : TxAt W K tb mb t) (hm : Mods (· = l) W W') (h1 : tb ≠ l) (h2 : mb ≠ l) (ho : W.heap[l]? = some o) (hc : o.isCells = false) : TxAt W' K tb mb t := by
  obtain ⟨⟨lv, k1, k2, k3⟩, ⟨n, h4, h5⟩, h6, h7⟩ := h
  refine ⟨⟨lv, k1.mods hm h1, hm.ownsRow k2 (fun k hk f => ?_), k3⟩, ⟨n, h4.mods hm h2, h5⟩, h6, fun k hk => Nat.lt_of_lt_of_le (h7 k hk) hm.size⟩
  rcases k2.2 with ⟨hv, -⟩ | ⟨g, cap, cur, hv, -, hg, -⟩
  · rw [hv] at hk; cases hk
  · rw [hv] at hk
    have e : g = k := Option.some.inj hk
    have e2 : k = l := f
    rw [e, e2, ho] at hg
    rw [Option.some.inj hg] at hc
    cases hc
/-- How the reading of lines stands. -/
structure AsAt (W0 : World) (h : Nat) (t : TxS) (n : Nat) (W : World) : Prop where
  res : Blk W h [.slice none 0 0] 22
  err : Blk W (h + 1) [.nilIface] 26
  ptr : Blk W (h + 4) [.pointer (some ⟨h + 3, 0, none⟩)] 62
  num : Blk W (h + 5) [.int .i64 (n : Int)] 3
  tx : TxAt W (KeptK h) (h + 3) (h + 2) t
  mods : Mods None W0 W
theorem mods_turn {W : World} {l : Nat} {o' : Obj} : Mods (· = l) W (W.putObj l o') := ⟨rfl, rfl, by simp [World.putObj], fun i _ hn => World.putObj_heap_other (fun e => hn e)⟩
theorem AsAt.turn {W0 W : World} {h n l : Nat} {t : TxS} {o o' : Obj} (H : AsAt W0 h t n W) (h0 : W0.heap.size = h) (hl : h + 9 ≤ l) (ho : W.heap[l]? = some o) (hc : o.isCells = false) : AsAt W0 h t n (W.putObj l o') :=
  ⟨H.res.mods mods_turn (show ¬ (h = l) by omega), H.err.mods mods_turn (show ¬ (h + 1 = l) by omega), H.ptr.mods mods_turn (show ¬ (h + 4 = l) by omega), H.num.mods mods_turn (show ¬ (h + 5 = l) by omega), H.tx.turn mods_turn (by omega) (by omega) ho hc,
    H.mods.trans' mods_turn (fun k hk hw => by have : k = l := hk; omega)⟩
theorem AsAt.cut {W0 W : World} {h n : Nat} {t : TxS} (H : AsAt W0 h t n W) (h0 : W0.heap.size = h) (v : Value) : AsAt W0 h t n (W.setCell ⟨h + 6, 0, none⟩ v) := by
  have hm : Mods (· = h + 6) W (W.setCell ⟨h + 6, 0, none⟩ v) := Mods.setCell (S := (· = h + 6)) (p := ⟨h + 6, 0, none⟩) (Mods.refl _ _) (fun _ => rfl) _
  exact ⟨H.res.mods hm (show ¬ (h = h + 6) by omega), H.err.mods hm (show ¬ (h + 1 = h + 6) by omega), H.ptr.mods hm (show ¬ (h + 4 = h + 6) by omega), H.num.mods hm (show ¬ (h + 5 = h + 6) by omega), H.tx.kept hm (fun k hk => by have : k = h + 6 := hk; unfold KeptK; omega),
    H.mods.trans' hm (fun k hk hw => by have : k = h + 6 := hk; omega)⟩
theorem start_at (W : World) (s : List UInt8) (h : Nat) (hh : h = W.heap.size) (o1 o2 : Obj) {W9 : World} (hW9 : W9 = ((((((((W.alloc (.cells #[.slice none 0 0] 22)).alloc (.cells #[.nilIface] 26)).alloc (.map #[] 0)).alloc (.cells #[.slice none 0 0, .map (some (h + 2))] 66)).alloc (.cells #[.pointer (some ⟨h + 3, 0, none⟩)] 62)).alloc (.cells #[.int .i64 0] 3)).alloc (.cells #[str s] 9)).alloc (.cells #[.string ⟨#[10]⟩] 9)).alloc (.cells #[.int .i64 0] 3)) :
    AsAt W h ⟨[], []⟩ 0 ((W9.alloc o1).alloc o2) ∧ CapAt ((W9.alloc o1).alloc o2) (h + 7) (h + 6) (h + 8) 10 s ∧ W9.heap.size = h + 9 := by
  obtain ⟨W1, h1⟩ : ∃ q, q = W.alloc (.cells #[.slice none 0 0] 22) := ⟨_, rfl⟩
  obtain ⟨W2, h2⟩ : ∃ q, q = W1.alloc (.cells #[.nilIface] 26) := ⟨_, rfl⟩
  obtain ⟨W3, h3⟩ : ∃ q, q = W2.alloc (.map #[] 0) := ⟨_, rfl⟩
  obtain ⟨W4, h4⟩ : ∃ q, q = W3.alloc (.cells #[.slice none 0 0, .map (some (h + 2))] 66) := ⟨_, rfl⟩
  obtain ⟨W5, h5⟩ : ∃ q, q = W4.alloc (.cells #[.pointer (some ⟨h + 3, 0, none⟩)] 62) := ⟨_, rfl⟩
  obtain ⟨W6, h6⟩ : ∃ q, q = W5.alloc (.cells #[.int .i64 0] 3) := ⟨_, rfl⟩
  obtain ⟨W7, h7⟩ : ∃ q, q = W6.alloc (.cells #[str s] 9) := ⟨_, rfl⟩
  obtain ⟨W8, h8⟩ : ∃ q, q = W7.alloc (.cells #[.string ⟨#[10]⟩] 9) := ⟨_, rfl⟩
  rw [← h1, ← h2, ← h3, ← h4, ← h5, ← h6, ← h7, ← h8] at hW9
  have e1 : W1.heap.size = h + 1 := by rw [h1, hh]; simp
  have e2 : W2.heap.size = h + 2 := by rw [h2]; simp [e1]
  have e3 : W3.heap.size = h + 3 := by rw [h3]; simp [e2]
  have e4 : W4.heap.size = h + 4 := by rw [h4]; simp [e3]
  have e5 : W5.heap.size = h + 5 := by rw [h5]; simp [e4]
  have e6 : W6.heap.size = h + 6 := by rw [h6]; simp [e5]
  have e7 : W7.heap.size = h + 7 := by rw [h7]; simp [e6]
  have e8 : W8.heap.size = h + 8 := by rw [h8]; simp [e7]
  have e9 : W9.heap.size = h + 9 := by rw [hW9]; simp [e8]
  have b0 : Blk W1 h [.slice none 0 0] 22 := by rw [h1, hh]; exact Blk.new W _ _
  have b1 : Blk W2 (h + 1) [.nilIface] 26 := by rw [h2, ← e1]; exact Blk.new W1 _ _
  have b2 : SMap W3 (h + 2) 0 (fun _ => none) := by rw [h3, ← e2]; exact SMap.new W2
  have b3 : Blk W4 (h + 3) [.slice none 0 0, .map (some (h + 2))] 66 := by rw [h4, ← e3]; exact Blk.new W3 _ _
  have b4 : Blk W5 (h + 4) [.pointer (some ⟨h + 3, 0, none⟩)] 62 := by rw [h5, ← e4]; exact Blk.new W4 _ _
  have b5 : Blk W6 (h + 5) [.int .i64 0] 3 := by rw [h6, ← e5]; exact Blk.new W5 _ _
  have b6 : Blk W7 (h + 6) [str s] 9 := by rw [h7, ← e6]; exact Blk.new W6 _ _
  have b7 : Blk W8 (h + 7) [.string ⟨#[10]⟩] 9 := by rw [h8, ← e7]; exact Blk.new W7 _ _
  have b8 : Blk W9 (h + 8) [.int .i64 0] 3 := by rw [hW9, ← e8]; exact Blk.new W8 _ _
  have mE : Mods None W9 ((W9.alloc o1).alloc o2) := ((Mods.refl _ _).alloc _).alloc _
  have m8 : Mods None W8 ((W9.alloc o1).alloc o2) := Mods.trans (by rw [hW9]; exact (Mods.refl _ _).alloc _) mE
  have m7 : Mods None W7 ((W9.alloc o1).alloc o2) := Mods.trans (by rw [h8]; exact (Mods.refl _ _).alloc _) m8
  have m6 : Mods None W6 ((W9.alloc o1).alloc o2) := Mods.trans (by rw [h7]; exact (Mods.refl _ _).alloc _) m7
  have m5 : Mods None W5 ((W9.alloc o1).alloc o2) := Mods.trans (by rw [h6]; exact (Mods.refl _ _).alloc _) m6
  have m4 : Mods None W4 ((W9.alloc o1).alloc o2) := Mods.trans (by rw [h5]; exact (Mods.refl _ _).alloc _) m5
  have m3 : Mods None W3 ((W9.alloc o1).alloc o2) := Mods.trans (by rw [h4]; exact (Mods.refl _ _).alloc _) m4
  have m2 : Mods None W2 ((W9.alloc o1).alloc o2) := Mods.trans (by rw [h3]; exact (Mods.refl _ _).alloc _) m3
  have m1 : Mods None W1 ((W9.alloc o1).alloc o2) := Mods.trans (by rw [h2]; exact (Mods.refl _ _).alloc _) m2
  have m0 : Mods None W ((W9.alloc o1).alloc o2) := Mods.trans (by rw [h1]; exact (Mods.refl _ _).alloc _) m1
  have no : ∀ k, ¬ None k := fun k f => f
  refine ⟨⟨b0.mods m1 (no _), b1.mods m2 (no _), b4.mods m5 (no _), b5.mods m6 (no _), ⟨⟨_, b3.mods m4 (no _), World.ownsRow_nil _ _ _ _, fun k hk => by cases hk⟩, ⟨0, b2.mods m3 (no _), Nat.le_refl _⟩, ⟨by unfold KeptK; omega, by unfold KeptK; omega, by omega⟩, fun k hk => ?_⟩, m0⟩, ⟨b7.mods m8 (no _), b6.mods m7 (no _), b8.mods mE (no _)⟩, e9⟩
  unfold KeptK at hk
  simp [e9]
  omega
theorem fail_world {w2 : World} {h : Nat} {v0 v1 : Value} (r0 : Blk w2 h [v0] 22) (r1 : Blk w2 (h + 1) [v1] 26) (c n : Int) :
    Blk ((((w2.setCell ⟨h, 0, none⟩ (.slice none 0 0)).setCell ⟨h + 1, 0, none⟩ (.iface 71 (.pointer (some ⟨w2.heap.size, 0, none⟩)))).alloc (.cells #[.int .i64 c, .int .i64 n] 72)).drew) h [.slice none 0 0] 22 ∧
    Blk ((((w2.setCell ⟨h, 0, none⟩ (.slice none 0 0)).setCell ⟨h + 1, 0, none⟩ (.iface 71 (.pointer (some ⟨w2.heap.size, 0, none⟩)))).alloc (.cells #[.int .i64 c, .int .i64 n] 72)).drew) (h + 1) [.iface 71 (.pointer (some ⟨w2.heap.size, 0, none⟩))] 26 ∧
    Blk ((((w2.setCell ⟨h, 0, none⟩ (.slice none 0 0)).setCell ⟨h + 1, 0, none⟩ (.iface 71 (.pointer (some ⟨w2.heap.size, 0, none⟩)))).alloc (.cells #[.int .i64 c, .int .i64 n] 72)).drew) w2.heap.size [.int .i64 c, .int .i64 n] 72 ∧
    Mods (fun k => k = h ∨ k = h + 1) w2 ((((w2.setCell ⟨h, 0, none⟩ (.slice none 0 0)).setCell ⟨h + 1, 0, none⟩ (.iface 71 (.pointer (some ⟨w2.heap.size, 0, none⟩)))).alloc (.cells #[.int .i64 c, .int .i64 n] 72)).drew) := by
  have hne : h ≠ h + 1 := by omega
  have hsz : ((w2.setCell ⟨h, 0, none⟩ (.slice none 0 0)).setCell ⟨h + 1, 0, none⟩ (.iface 71 (.pointer (some ⟨w2.heap.size, 0, none⟩)))).heap.size = w2.heap.size := by simp [World.setCell]
  refine ⟨((((r0.set 0 (.slice none 0 0)).other (a := ⟨h + 1, 0, none⟩) hne _).alloc _).drew), (((((r1.other (a := ⟨h, 0, none⟩) hne.symm _).set 0 _)).alloc _).drew), ?_, ((((Mods.refl _ w2).setCell (p := ⟨h, 0, none⟩) (fun _ => .inl rfl) _).setCell (p := ⟨h + 1, 0, none⟩) (fun _ => .inr rfl) _).alloc _).drew⟩
  have := (Blk.new ((w2.setCell ⟨h, 0, none⟩ (.slice none 0 0)).setCell ⟨h + 1, 0, none⟩ (.iface 71 (.pointer (some ⟨w2.heap.size, 0, none⟩)))) #[.int .i64 c, .int .i64 n] 72).drew
  rw [hsz] at this
  exact this
theorem lines_fail {pre all : List (List UInt8)} {x : List UInt8} {t : TxS} {c : Int} (hp : pre ++ [x] <+: all) (h : linesR pre 0 ⟨[], []⟩ = .ok t) (ha : addR x pre.length t = .error c) : linesR all 0 ⟨[], []⟩ = .error (c, pre.length) := by
  obtain ⟨r, rfl⟩ := hp
  rw [List.append_assoc, linesR_app, h]
  simp only [List.singleton_append, linesR, Nat.zero_add]
  rw [ha]
theorem partR_tgt {c : UInt8} {w : List UInt8} {x x' : Ins} {tgt tgt' : List UInt8} (h : partR c w x tgt = some (x', tgt')) (ht : tgt.length ≤ 24) : tgt'.length ≤ 24 := by
  have nm : nameB w = true → w.length ≤ 24 := fun hn => by
    unfold nameB at hn
    simp only [Bool.and_eq_true, decide_eq_true_eq] at hn
    exact hn.1.1
  have go : ∀ (o : Option Int) (f : Int → Ins), o.map (fun n => (f n, tgt)) = some (x', tgt') → tgt'.length ≤ 24 := fun o f e => by
    cases o with
    | none => cases e
    | some n => cases e; exact ht
  unfold partR at h
  split at h
  · exact go _ (fun n => { x with rd := n }) h
  split at h
  · exact go _ (fun n => { x with ra := n }) h
  split at h
  · exact go _ (fun n => { x with rb := n }) h
  split at h
  · simp only at h
    split at h
    · split at h
      · cases h; exact ht
      · cases h
    · cases h
  split at h
  · split at h
    · cases h; exact ht
    · split at h
      · rename_i hn
        cases h
        exact nm hn
      · cases h
  · exact go _ (fun n => { x with n := n }) h
theorem partsR_tgt : (cs : List UInt8) → (ws : List (List UInt8)) → (x : Ins) → (tgt : List UInt8) → (x' : Ins) → (tgt' : List UInt8) → partsR cs ws x tgt = some (x', tgt') → tgt.length ≤ 24 → tgt'.length ≤ 24
  | [], [], x, tgt, x', tgt', h, ht => by
    simp only [partsR, Option.some.injEq, Prod.mk.injEq] at h
    rw [← h.2]; exact ht
  | [], w :: ws, x, tgt, x', tgt', h, ht => by simp [partsR] at h
  | c :: cs, [], x, tgt, x', tgt', h, ht => by simp [partsR] at h
  | c :: cs, w :: ws, x, tgt, x', tgt', h, ht => by
    rw [partsR] at h
    cases hp : partR c w x tgt with
    | none => rw [hp] at h; cases h
    | some p =>
      rw [hp] at h
      exact partsR_tgt cs ws p.1 p.2 x' tgt' h (partR_tgt (x' := p.1) hp ht)
/-- What the lines of a text have told: places lie within it; names are short. -/
def Sane (t : TxS) : Prop := (∀ p ∈ t.places, p.2 ≤ t.l.length) ∧ ∀ y ∈ t.l, y.2.1.length ≤ 24
theorem addR_sane {s : List UInt8} {i : Nat} {t t' : TxS} (h : addR s i t = .ok t') (ht : Sane t) : Sane t' := by
  unfold addR at h
  split at h
  · cases h; exact ht
  · split at h
    · cases h
    · cases h
      refine ⟨fun p hp => ?_, ht.2⟩
      rcases List.mem_cons.1 hp with rfl | hp
      · exact Nat.le_refl _
      · exact ht.1 p hp
  · rename_i x tgt hl
    cases h
    refine ⟨fun p hp => ?_, fun y hy => ?_⟩
    · have := ht.1 p hp
      simp only [List.length_append, List.length_singleton]
      omega
    · rcases List.mem_append.1 hy with hy | hy
      · exact ht.2 y hy
      · rw [List.mem_singleton] at hy
        subst hy
        simp only
        unfold lineR lineT at hl
        split at hl
        · split at hl <;> cases hl
        split at hl
        · cases hl
        split at hl
        · cases hl
        · split at hl
          · rename_i p hp
            cases hl
            exact partsR_tgt _ _ _ _ p.1 p.2 hp (by simp)
          · cases hl
  · cases h
theorem linesR_sane : (a : List (List UInt8)) → (i : Nat) → (t t' : TxS) → linesR a i t = .ok t' → Sane t → Sane t'
  | [], i, t, t', h, ht => by
    simp only [linesR] at h
    cases h
    exact ht
  | x :: a, i, t, t', h, ht => by
    rw [linesR] at h
    cases hx : addR x i t with
    | error e => rw [hx] at h; cases h
    | ok t1 =>
      rw [hx] at h
      exact linesR_sane a (i + 1) t1 t' h (addR_sane hx ht)
theorem findP_le {t : TxS} (h : Sane t) {n : List UInt8} {k : Nat} (hf : findP t.places n = some k) : k ≤ t.l.length := by
  unfold findP at hf
  cases hp : t.places.find? (fun p => p.1 == n) with
  | none => rw [hp] at hf; cases hf
  | some p =>
    rw [hp] at hf
    cases hf
    exact h.1 p (List.mem_of_find?_eq_some hp)
def insRow (l : List Ins) : List Value := l.flatMap fun x => (instCells x.op x.rd x.ra x.rb x.n).toList
/-- Where the second loop stands. -/
structure OutAt (W' : World) (t : TxS) (i : Nat) (acc : List Ins) (v : Value) (wr : World) : Prop where
  own : wr.ownsRow W'.heap.size 30 5 v i (insRow acc)
  left : outR t.places t.l 0 = (match outR t.places (t.l.drop i) i with | .ok l => .ok (acc ++ l) | .error e => .error e)
  len : acc.length = i
  mods : Mods None W' wr
theorem out_fail {W' wr : World} {t : TxS} {i : Nat} {acc : List Ins} {v : Value} (h : OutAt W' t i acc v wr) {y : Ins × List UInt8 × Nat} (hy : t.l[i]? = some y) {e : Int × Nat} (ha : aimed t.places y i = .error e) : outR t.places t.l 0 = .error e := by
  obtain ⟨hi, rfl⟩ := List.getElem?_eq_some_iff.1 hy
  rw [h.left, List.drop_eq_getElem_cons hi, outR, ha]
theorem out_next {W' wr : World} {t : TxS} {i : Nat} {acc : List Ins} {v : Value} (h : OutAt W' t i acc v wr) {y : Ins × List UInt8 × Nat} (hy : t.l[i]? = some y) {x : Ins} (ha : aimed t.places y i = .ok x) :
    outR t.places t.l 0 = (match outR t.places (t.l.drop (i + 1)) (i + 1) with | .ok l => .ok ((acc ++ [x]) ++ l) | .error e => .error e) := by
  obtain ⟨hi, rfl⟩ := List.getElem?_eq_some_iff.1 hy
  rw [h.left, List.drop_eq_getElem_cons hi, outR, ha]
  simp only
  cases outR t.places (t.l.drop (i + 1)) (i + 1) with
  | ok l => simp
  | error e => rfl
theorem inst_new (w : World) (x : Ins) : ∀ j u, (instCells x.op x.rd x.ra x.rb x.n).toList[j]? = some u → (w.alloc (.cells (instCells x.op x.rd x.ra x.rb x.n) 30)).cell? ((⟨w.heap.size, 0, none⟩ : Addr).add j) = some u := fun j u h => by
  have := (Blk.new w (instCells x.op x.rd x.ra x.rb x.n) 30).cell h
  have e : (⟨w.heap.size, 0, none⟩ : Addr).add j = ⟨w.heap.size, j, none⟩ := by cases j <;> simp [Addr.add]
  rw [e]
  exact this
theorem inst_one (x : Ins) : ∀ u ∈ (instCells x.op x.rd x.ra x.rb x.n).toList, u.oneCell' = true := fun u hu => by
  unfold instCells at hu
  simp only [List.mem_cons, List.not_mem_nil, or_false] at hu
  rcases hu with rfl | rfl | rfl | rfl | rfl <;> rfl
theorem insRow_add (l : List Ins) (x : Ins) : insRow (l ++ [x]) = insRow l ++ (instCells x.op x.rd x.ra x.rb x.n).toList := by
  unfold insRow
  simp
/-- The cells of a line of the text. -/
theorem line_cells {W : World} {oa : Option Addr} {oc : Nat} {l : List (Ins × List UInt8 × Nat)} (h : W.ownsRow 0 74 7 (.slice oa l.length oc) l.length (flatL l)) {i : Nat} {y : Ins × List UInt8 × Nat} (hy : l[i]? = some y) :
    ∃ g, oa = some ⟨g, 0, none⟩ ∧ ∀ k u, (lineCells y.1 y.2.1 y.2.2).toList[k]? = some u → W.cell? ⟨g, i * 7 + k, none⟩ = some u := by
  obtain ⟨hi, rfl⟩ := List.getElem?_eq_some_iff.1 hy
  rcases h.2 with ⟨hv, h0⟩ | ⟨g, cap, cur, hv, _⟩
  · omega
  · have e : oa = some ⟨g, 0, none⟩ := by
      have := hv
      simp only [Value.slice.injEq] at this
      exact this.1
    refine ⟨g, e, fun k u hu => ?_⟩
    subst e
    have hk : k < 7 := by
      have := (List.getElem?_eq_some_iff.1 hu).1
      simpa [lineCells] using this
    have hrow : (flatL l)[i * 7 + k]? = some u := by
      have hs : ∀ (l : List (Ins × List UInt8 × Nat)) (i : Nat) (hi : i < l.length), (flatL l)[i * 7 + k]? = (lineCells (l[i]).1 (l[i]).2.1 (l[i]).2.2).toList[k]? := by
        intro l
        induction l with
        | nil => intro i hi; simp at hi
        | cons a r ih =>
          intro i hi
          have hf : flatL (a :: r) = (lineCells a.1 a.2.1 a.2.2).toList ++ flatL r := by unfold flatL; simp
          have hl7 : (lineCells a.1 a.2.1 a.2.2).toList.length = 7 := rfl
          rw [hf]
          cases i with
          | zero =>
            rw [List.getElem?_append_left (by rw [hl7]; omega)]
            simp
          | succ i =>
            rw [List.getElem?_append_right (by rw [hl7]; omega), hl7, show (i + 1) * 7 + k - 7 = i * 7 + k by omega]
            rw [ih i (by simpa using hi)]
            simp
      rw [hs l i hi]
      exact hu
    have := h.cells (g := g) rfl (i * 7 + k) u hrow
    have e2 : (⟨g, 0, none⟩ : Addr).add (i * 7 + k) = ⟨g, i * 7 + k, none⟩ := by
      unfold Addr.add
      split <;> simp_all
    rw [e2] at this
    exact this
/-- What has come so far is told. -/
def Jc (W0 : World) (h : Nat) (pre : List (List UInt8)) (W : World) : Prop := ∃ t, linesR pre 0 ⟨[], []⟩ = .ok t ∧ AsAt W0 h t pre.length W
/-- A line that may not be: how the reading ends. -/
def Jx (W0 : World) (h : Nat) (s : List UInt8) (c : Code) (pre : List (List UInt8)) (W : World) : Prop := c = .ret ∧ ∃ (e : Int) (p g : Nat), linesR (splitL 10 s) 0 ⟨[], []⟩ = .error (e, p) ∧ Blk W h [.slice none 0 0] 22 ∧ Blk W (h + 1) [.iface 71 (.pointer (some ⟨g, 0, none⟩))] 26 ∧ W0.heap.size ≤ g ∧ Blk W g [.int .i64 e, .int .i64 (p : Int)] 72 ∧ Mods None W0 W
set_option maxRecDepth 100000 in
set_option maxHeartbeats 4000000 in
theorem assemble_any (s : List UInt8) (hs : s.length ≤ 900000) (W : World) (hB : Base W) : Calls Tryz.prog 9 #[str s] W (AsmA s W) := by
  have HB := Lib.hid hB
  have HS := Lib.hid hs
  clear hB hs
  obtain ⟨h, hh⟩ : ∃ h, h = W.heap.size := ⟨_, rfl⟩
  refine (callsIn_wide (n := 8)).1 ?_
  refine callsIn_of_wp_marks Tryz.func9 rfl trivial ?_ rfl
  simp only [Tryz.ntmps9, List.size_toArray, List.length_cons, List.length_nil, Nat.reduceAdd, Nat.reduceSub, Array.replicate_succ, Array.replicate_zero, List.push_toArray, List.append_toArray, List.nil_append, List.cons_append]
  have hmk := mk_places
  gi_wp2
  clear hmk
  rw [← hh]
  simp only [Nat.add_assoc, Nat.reduceAdd]
  obtain ⟨W6, hW6⟩ : ∃ q, q = (((((W.alloc (.cells #[.slice none 0 0] 22)).alloc (.cells #[.nilIface] 26)).alloc (.map #[] 0)).alloc (.cells #[.slice none 0 0, .map (some (h + 2))] 66)).alloc (.cells #[.pointer (some ⟨h + 3, 0, none⟩)] 62)).alloc (.cells #[.int .i64 0] 3) := ⟨_, rfl⟩
  rw [← hW6]
  have hS6 : W6.heap.size = h + 6 := by rw [hW6, hh]; simp
  refine ⟨trivial, ?_⟩
  refine (callsIn_wide.2 (split_seq s 10 W6)).mono ?_
  rintro e W9 ⟨rfl, hW9⟩
  rw [hS6, show h + 6 + 1 = h + 7 from rfl, show h + 6 + 2 = h + 8 from rfl]
  rw [hW6] at hW9
  have HST := Lib.hid (fun o1 o2 => start_at W s h hh o1 o2 hW9)
  have he9 := (HST.out (.map #[] 0) (.map #[] 0)).2.2
  have HH := Lib.hid hh
  clear hW9 hh hW6 hS6
  gi_wp2
  refine range_law (K := fun k => k = h + 7 ∨ k = h + 6 ∨ k = h + 8) (gf := 84) (lb := #[.pointer (some ⟨h + 7, 0, none⟩), .pointer (some ⟨h + 6, 0, none⟩), .pointer (some ⟨h + 8, 0, none⟩)]) rfl (enters_of Tryz.func84 (by kernel_rfl) rfl) (encs := fun x : List UInt8 => #[str x]) (fun x => rfl) (S := fun xs => xs = splitL 10 s) (Sp := fun pre => pre <+: splitL 10 s)
    (fun pre W' => Jc W h pre W' ∧ (pre = [] → CapAt W' (h + 7) (h + 6) (h + 8) 10 s)) (Jx W h s) ?hJ ?hJx ?h0 (fun x => { tmps := #[str s, undef, .pointer (some ⟨h, 0, none⟩), .pointer (some ⟨h + 1, 0, none⟩), .pointer (some ⟨h + 4, 0, none⟩), .pointer (some ⟨h + 5, 0, none⟩), str x, undef, undef, undef, undef, undef, undef, .map (some (h + 2)), .agg #[.slice none 0 0, .map (some (h + 2))], .pointer (some ⟨h + 3, 0, none⟩), str s, .func (.func 84) #[] #[.pointer (some ⟨h + 7, 0, none⟩), .pointer (some ⟨h + 6, 0, none⟩), .pointer (some ⟨h + 8, 0, none⟩)], str x, undef, undef, undef, undef, undef, undef, undef, undef, undef, undef, undef, undef, undef, undef, undef, undef, undef, undef, undef, undef, undef, undef, undef, undef, undef, undef, undef, undef, undef, undef, undef, undef, undef, undef, undef, undef, undef, undef, undef, undef, undef, undef, undef, undef, undef, undef, undef, undef, undef, undef, undef, undef, undef, undef, undef, undef, undef, undef, undef, undef, undef, undef, undef, undef, undef], defers := [] }) ?assign ?body (seq_does 7 W9.heap.size (by omega) (h + 7) (h + 6) (h + 8) ⟨by omega, by omega⟩ ⟨by omega, by omega, by omega⟩ 10 s (by have := HS.out; omega) (Jc W h) (Jx W h s) ?hw) ?done ?stop
  case hJ =>
    rintro pre A l o o' hbl hl hc ⟨⟨t, h1, h2⟩, h3⟩
    exact ⟨⟨t, h1, h2.turn HH.out.symm (by omega) hl hc⟩, fun e => ⟨(h3 e).sep.mods mods_turn (show ¬ (h + 7 = l) by omega), (h3 e).rest.mods mods_turn (show ¬ (h + 6 = l) by omega), (h3 e).save.mods mods_turn (show ¬ (h + 8 = l) by omega)⟩⟩
  case hJx =>
    rintro c pre A l o o' hbl hl hc ⟨rfl, e, p, g, h1, h2, h3, h4, h5, h6⟩
    refine ⟨rfl, e, p, g, h1, h2.mods mods_turn (show ¬ (h = l) by omega), h3.mods mods_turn (show ¬ (h + 1 = l) by omega), h4, h5.mods mods_turn (fun f => ?_), h6.trans' mods_turn (fun k hk hw => by have := HH.out; have : k = l := hk; omega)⟩
    have f' : g = l := f
    have h5' : A.heap[g]? = _ := h5
    rw [f', hl] at h5'
    rw [Option.some.inj h5'] at hc
    cases hc
  case h0 => exact fun o1 o2 => ⟨⟨⟨[], []⟩, rfl, (HST.out o1 o2).1⟩, fun _ => (HST.out o1 o2).2.1⟩
  case hw =>
    rintro pre W' v ⟨t, h1, h2⟩
    exact ⟨t, h1, h2.cut HH.out.symm v⟩
  case assign =>
    intro l x W' K hK
    gi_wp2
    exact hK
  case body =>
    rintro pre x Wr hsz hSp ⟨⟨t, h1, h2⟩, -⟩
    have hmem : x ∈ splitL 10 s := hSp.subset (by simp)
    have hsl := splitL_len 10 s
    have hx : x.length ≤ 1000000 := by have := hsl.1 x hmem; have := HS.out; omega
    have hpl : pre.length + 1 ≤ 900001 := by have := hSp.length_le; simp only [List.length_append, List.length_singleton] at this; have := HS.out; omega
    have HLN := Lib.hid (linesR_len pre 0 _ _ h1)
    have HA := Lib.hid h2
    have HL := Lib.hid h1
    have HSP := Lib.hid hSp
    have hkK : ∀ k, k < 12 → KeptK h k := fun k hk => by have := HB.out.room; have := HH.out; unfold KeptK; omega
    have HAD := Lib.hid (add_any x hx pre.length (by omega) t (by have := HLN.out; simp only [List.length_nil] at this; omega) (KeptK h) hkK (h + 3) (h + 2) Wr (HB.out.next h2.mods far_none) h2.tx)
    have q4 := h2.ptr.cell (i := 0) rfl
    have q5 := h2.num.cell (i := 0) rfl
    have HZ := Lib.hid (And.intro hsz hpl)
    clear h1 h2 hmem hsl hSp hkK hsz
    gi_wp2
    refine ⟨trivial, ?_⟩
    refine (CallsIn.inRound _ (callsIn_wide.2 HAD.out)).mono ?_
    rintro e w2 hP
    have HM := Lib.hid hP.2
    have hP1 := hP.1
    have hk : ∀ k, KeptK h k → ¬ ¬ KeptK h k := fun k hk f => f hk
    have hkk : ∀ k, k < h + 11 → k ≠ h + 3 → k ≠ h + 2 → KeptK h k := fun k a b c => ⟨a, b, c⟩
    have r0 : Blk w2 h [.slice none 0 0] 22 := HA.out.res.mods HM.out (hk _ (hkk _ (by omega) (by omega) (by omega)))
    have r1 : Blk w2 (h + 1) [.nilIface] 26 := HA.out.err.mods HM.out (hk _ (hkk _ (by omega) (by omega) (by omega)))
    have r4 := HA.out.ptr.mods HM.out (hk _ (hkk _ (by omega) (by omega) (by omega)))
    have r5 := HA.out.num.mods HM.out (hk _ (hkk _ (by omega) (by omega) (by omega)))
    have HR := Lib.hid (And.intro r0 (And.intro r1 (And.intro r4 r5)))
    have HMW : Hid (Mods None W w2) := Lib.hid (HA.out.mods.trans' HM.out (fun k hk2 hw => hk2 (hkk k (by have := HH.out; omega) (by have := HH.out; omega) (by have := HH.out; omega))))
    have q5 := r5.cell (i := 0) rfl
    have f5 := r5.free 0
    have l5 := r5.lt
    have hw2 : h + 11 ≤ w2.heap.size := by have := HM.out.size; have := HZ.out.1; omega
    clear hP hk hkk r4 r5 q4
    cases hadd : addR x pre.length t with
    | error c =>
      rw [hadd] at hP1
      obtain ⟨rfl, hc⟩ := hP1
      have c0 := r0.cell (i := 0) rfl
      have f0 := r0.free 0
      have c1 := r1.cell (i := 0) rfl
      have f1 := r1.free 0
      have l0 := r0.lt
      have l1 := r1.lt
      have HADD := Lib.hid hadd
      clear hadd HAD r0 r1
      have hcb : (c != 0) = true := by simpa using hc
      gi_wp2
      gi_region
      all_goals
        gi_wp2
        obtain ⟨z0, z1, z2, z3⟩ := fail_world HR.out.1 HR.out.2.1 c (pre.length : Int)
        refine ⟨fun k hk => (z3.block k (by omega) (by omega)).trans (HM.out.block k (by have := HZ.out.1; omega) (fun f => f ⟨by omega, by omega, by omega⟩)), rfl, c, pre.length, w2.heap.size, lines_fail HSP.out HL.out HADD.out, z0, z1, by have := HMW.out.size; exact this, z2, HMW.out.trans' z3 (fun k hk hw => by have := HH.out; have : k = h ∨ k = h + 1 := hk; omega)⟩
    | ok t' =>
      rw [hadd] at hP1
      obtain ⟨rfl, hT⟩ := hP1
      have HT := Lib.hid hT
      have HADD := Lib.hid hadd
      clear hadd HAD r0 r1 hT
      gi_wp2
      have hms : Mods (· = h + 5) w2 (w2.setCell ⟨h + 5, 0, none⟩ (.int .i64 ((pre.length : Int) + 1))) := Mods.setCell (S := (· = h + 5)) (p := ⟨h + 5, 0, none⟩) (Mods.refl _ _) (fun _ => rfl) _
      have hkp : ∀ k, k < h + 11 → k ≠ h + 3 → k ≠ h + 2 → k ≠ h + 5 → (w2.setCell ⟨h + 5, 0, none⟩ (.int .i64 ((pre.length : Int) + 1))).heap[k]? = Wr.heap[k]? := fun k a b c d => (heap_setCell_other w2 ⟨h + 5, 0, none⟩ k _ d).trans (HM.out.block k (by have := HZ.out.1; omega) (fun f => f ⟨a, b, c⟩))
      refine ⟨fun k hk => hkp k (by omega) (by omega) (by omega) (by omega), fun k hk hq => hkp k (by omega) (by omega) (by omega) (by omega), ⟨t', ?_, ?_⟩, fun e => by simp at e⟩
      · rw [linesR_app, HL.out]
        simp only [linesR, Nat.zero_add]
        rw [HADD.out]
      · refine ⟨HR.out.1.mods hms (show ¬ (h = h + 5) by omega), HR.out.2.1.mods hms (show ¬ (h + 1 = h + 5) by omega), HR.out.2.2.1.mods hms (show ¬ (h + 4 = h + 5) by omega), ?_, HT.out.kept hms (fun k hk => by have : k = h + 5 := hk; unfold KeptK; omega), HMW.out.trans' hms (fun k hk hw => by have : k = h + 5 := hk; have := HH.out; omega)⟩
        have := HR.out.2.2.2.set 0 (.int .i64 ((pre.length : Int) + 1))
        rw [List.length_append, List.length_singleton]
        exact this
  case stop =>
    rintro c pre W' ⟨rfl, e, p, g, h1, h2, h3, h4, h5, h6⟩ hK
    have hb : W.heap.size ≤ W9.heap.size := by have := HH.out; omega
    have HJ := Lib.hid (And.intro h1 (And.intro h2 (And.intro h3 (And.intro h4 (And.intro h5 h6)))))
    have HK := Lib.hid hK
    clear h1 h2 h3 h4 h5 h6 hK
    gi_wp2
    refine ⟨by simp, .inl ⟨_, _, rfl, run_takeDeferred HK.out, ?_⟩⟩
    have c0 : (W'.putObj W9.heap.size (.deferred none)).cell? ⟨h, 0, none⟩ = some (.slice none 0 0) := (HJ.out.2.1.mods mods_turn (show ¬ (h = W9.heap.size) by omega)).cell (i := 0) rfl
    have c1 : (W'.putObj W9.heap.size (.deferred none)).cell? ⟨h + 1, 0, none⟩ = some (.iface 71 (.pointer (some ⟨g, 0, none⟩))) := (HJ.out.2.2.1.mods mods_turn (show ¬ (h + 1 = W9.heap.size) by omega)).cell (i := 0) rfl
    refine ⟨.tuple #[.slice none 0 0, .iface 71 (.pointer (some ⟨g, 0, none⟩))], ?_, ?_⟩
    · simp [results, Tryz.f9, go_sem, c0, c1]
    · unfold AsmA asmR
      rw [HJ.out.1]
      exact ⟨⟨g, rfl, HJ.out.2.2.2.1, HJ.out.2.2.2.2.1.mods mods_turn (fun f => by
        have f' : g = W9.heap.size := f
        have h5 : W'.heap[g]? = _ := HJ.out.2.2.2.2.1
        rw [f', HK.out] at h5
        cases h5)⟩, HJ.out.2.2.2.2.2.trans' mods_turn (fun k hk hw => by have : k = W9.heap.size := hk; omega)⟩
  case done =>
    rintro xs W' rfl ⟨⟨t, h1, h2⟩, -⟩ hK
    obtain ⟨b9, hb9⟩ : ∃ b9, W9.heap.size = b9 := ⟨_, rfl⟩
    rw [hb9] at hK he9 ⊢
    have HE9 := Lib.hid he9
    clear he9 hb9 HST
    have HL := Lib.hid h1
    have HA := Lib.hid h2
    have HK := Lib.hid hK
    have q4 := h2.ptr.cell (i := 0) rfl
    obtain ⟨lv, hb1, hb2, hb3⟩ := h2.tx.row
    obtain ⟨oa, oc, rfl⟩ := row_form hb2
    have HRW := Lib.hid (And.intro hb1 (And.intro hb2 hb3))
    have p0 := hb1.cell (i := 0) rfl
    have p1 := hb1.cell (i := 1) rfl
    obtain ⟨n, hn⟩ : ∃ n, n = t.l.length := ⟨_, rfl⟩
    rw [← hn] at p0
    have HN := Lib.hid hn
    clear h1 h2 hK hb1 hb2 hb3 hn
    gi_wp2
    refine wpIn_wide.2 ?_
    simp only [wpIn_wide] at *
    have HSN := Lib.hid (linesR_sane _ _ _ _ HL.out ⟨by simp, by simp⟩)
    have HNN : Hid (n ≤ 900001) := Lib.hid (by
      have h1 := (linesR_len _ _ _ _ HL.out).1
      have h2 := (splitL_len 10 s).2
      have h3 := HS.out
      have h4 := HN.out
      simp only [List.length_nil] at h1
      omega)
    obtain ⟨i0, hi0, hz0, hz1, hz2⟩ := info_parts ins_info
    have HI := Lib.hid (⟨hi0, hz0, hz1, hz2⟩ : _ ∧ _ ∧ _ ∧ _)
    clear hi0 hz0 hz1 hz2
    clear q4 p0 p1
    go_loopw [8, 37] (fun v iv wr => ∃ (i : Nat) (acc : List Ins), i ≤ n ∧ iv = .int .i64 i ∧ Hid (OutAt W' t i acc v wr)) (fun _ iv _ => (n - intOf iv).toNat)
    case atStart => exact ⟨0, [], Nat.zero_le _, rfl, Lib.hid ⟨World.ownsRow_nil _ _ _ _, by rw [List.drop_zero]; cases outR t.places t.l 0 <;> simp, rfl, Mods.refl _ _⟩⟩
    case round =>
      obtain ⟨i, acc, hi, rfl, HO⟩ := hrel
      obtain ⟨va, vc, rfl⟩ := row_form HO.out.own
      by_cases hlt : i < n
      · obtain ⟨y, hy⟩ : ∃ y, t.l[i]? = some y := ⟨_, List.getElem?_eq_getElem (by rw [← HN.out]; exact hlt)⟩
        obtain ⟨x, tgt, an⟩ := y
        have HY := Lib.hid hy
        obtain ⟨g, hoa, hcell⟩ := line_cells (HO.out.mods.ownsRow HRW.out.2.1 (fun k _ f => f)) hy
        subst hoa
        have htg : tgt.length ≤ 24 := HSN.out.2 _ (List.mem_of_getElem? hy)
        have d0 : wr.cell? ⟨g, i * 7, none⟩ = some (.int .i64 x.op) := hcell 0 _ rfl
        have d1 := hcell 1 _ rfl
        have d2 := hcell 2 _ rfl
        have d3 := hcell 3 _ rfl
        have d4 := hcell 4 _ rfl
        have d5 := hcell 5 _ rfl
        have d6 := hcell 6 _ rfl
        unfold str at d5
        have hin : (i : Int) < n := by omega
        have HTG := Lib.hid htg
        clear hcell hy htg
        go_upto_region 13 with (fail)
        obtain ⟨w5, hw5⟩ : ∃ w5, w5 = wr.alloc (.cells (lineCells x tgt an) 74) := ⟨_, rfl⟩
        obtain ⟨bl, hbl⟩ : ∃ bl, bl = wr.heap.size := ⟨_, rfl⟩
        have e5 : wr.alloc (.cells #[.int .i64 x.op, .int .i64 x.rd, .int .i64 x.ra, .int .i64 x.rb, .int .i64 x.n, .string ⟨tgt.toArray⟩, .int .i64 an] 74) = w5 := hw5.symm
        have HM5 : Hid (Mods None W' w5) := Lib.hid (by rw [hw5]; exact HO.out.mods.alloc _)
        have HB5 : Hid (Blk w5 bl (lineCells x tgt an).toList 74) := Lib.hid (by rw [hw5, hbl]; exact Blk.new wr _ _)
        have HOR5 : Hid (w5.ownsRow W'.heap.size 30 5 (.slice va i vc) i (insRow acc)) := Lib.hid (by rw [hw5]; exact HO.out.own.alloc _)
        have HBL : Hid (W'.heap.size ≤ bl) := Lib.hid (by rw [hbl]; exact HO.out.mods.size)
        have HVB : Hid (∀ k, (Value.slice va i vc).ownBlock = some k → k ≠ bl) := Lib.hid (fun k hk => by have := (HO.out.own.lt k hk).2; omega)
        rw [e5, ← hbl]
        clear e5 hw5 hbl d0 d1 d2 d3 d4 d5 d6
        have e5 := HB5.out.cell (i := 5) rfl
        unfold str at e5
        by_cases htn : tgt = []
        · subst htn
          obtain ⟨x1, hx1⟩ : ∃ x1, x1 = x := ⟨_, rfl⟩
          obtain ⟨w6, hw6⟩ : ∃ w6, w6 = w5 := ⟨_, rfl⟩
          obtain ⟨tgt, htt⟩ : ∃ tgt : List UInt8, tgt = [] := ⟨_, rfl⟩
          have HAI : Hid (aimed t.places (x, tgt, an) i = if x1.right = true then .ok x1 else .error (2, an)) := Lib.hid (by rw [hx1, htt]; rfl)
          have HB6 : Hid (Blk w6 bl (lineCells x1 tgt an).toList 74) := Lib.hid (by rw [hx1, hw6, htt]; exact HB5.out)
          have HM6 : Hid (Mods None W' w6) := Lib.hid (by rw [hw6]; exact HM5.out)
          have HOR6 : Hid (w6.ownsRow W'.heap.size 30 5 (.slice va i vc) i (insRow acc)) := Lib.hid (by rw [hw6]; exact HOR5.out)
          have HY : Hid (t.l[i]? = some (x, tgt, an)) := Lib.hid (by rw [htt]; exact HY.out)
          go_upto_region 18 with (fail)
          rw [← hw6]
          clear htt hw6 hx1 HB5 HM5 HOR5 e5
          have e0 := HB6.out.cell (i := 0) rfl
          have e1 := HB6.out.cell (i := 1) rfl
          have e2 := HB6.out.cell (i := 2) rfl
          have e3 := HB6.out.cell (i := 3) rfl
          have e4 := HB6.out.cell (i := 4) rfl
          go_wp2_with fail
          refine (right_ins x1 w6 (HB.out.next (HA.out.mods.trans HM6.out) far_none).forms).mono ?_
          rintro e w7 ⟨rfl, hw7⟩
          have HM7 : Hid (Mods None W' w7) := Lib.hid (by rw [hw7]; exact HM6.out.alloc _)
          have HB7 : Hid (Blk w7 bl (lineCells x1 tgt an).toList 74) := Lib.hid (by rw [hw7]; exact HB6.out.alloc _)
          have HOR7 : Hid (w7.ownsRow W'.heap.size 30 5 (.slice va i vc) i (insRow acc)) := Lib.hid (by rw [hw7]; exact HOR6.out.alloc _)
          clear hw7 e0 e1 e2 e3 e4 HB6 HM6 HOR6
          obtain ⟨rt, hrt⟩ : ∃ rt, rt = x1.right := ⟨_, rfl⟩
          rw [← hrt] at HAI ⊢
          clear hrt
          have e0 := HB7.out.cell (i := 0) rfl
          have e1 := HB7.out.cell (i := 1) rfl
          have e2 := HB7.out.cell (i := 2) rfl
          have e3 := HB7.out.cell (i := 3) rfl
          have e4 := HB7.out.cell (i := 4) rfl
          have e6 := HB7.out.cell (i := 6) rfl
          cases rt with
          | false =>
            have HAIM : Hid (aimed t.places (x, tgt, an) i = .error (2, an)) := Lib.hid (by rw [HAI.out]; rfl)
            have HF0 := Lib.hid (HA.out.res.mods HM7.out (fun f => f))
            have HF1 := Lib.hid (HA.out.err.mods HM7.out (fun f => f))
            have c0 := HF0.out.cell (i := 0) rfl
            have z0 := HF0.out.free 0
            have c1 := HF1.out.cell (i := 0) rfl
            have z1 := HF1.out.free 0
            have l0 := HF0.out.lt
            have l1 := HF1.out.lt
            go_upto_region 19 with (fail)
            go_region
            all_goals
              go_wp2_with fail
              obtain ⟨y0, y1, y2, y3⟩ := fail_world HF0.out HF1.out 2 (an : Int)
              have hb9 := HE9.out
              have hKF := y3.blockOf (HM7.out.blockOf HK.out (fun f => f)) (show ¬ (b9 = h ∨ b9 = h + 1) by omega)
              refine ⟨by simp, .inl ⟨_, _, rfl, run_takeDeferred hKF, ?_⟩⟩
              have k0 := (y0.mods (mods_turn (l := b9) (o' := .deferred none)) (show ¬ (h = b9) by omega)).cell (i := 0) rfl
              have k1 := (y1.mods (mods_turn (l := b9) (o' := .deferred none)) (show ¬ (h + 1 = b9) by omega)).cell (i := 0) rfl
              have hsz := (HA.out.mods.trans HM7.out).size
              have hsz2 := HM7.out.blockOf HK.out (fun f => f)
              have hsz3 := lt_of_block hsz2
              refine ⟨.tuple #[.slice none 0 0, .iface 71 (.pointer (some ⟨w7.heap.size, 0, none⟩))], ?_, ?_⟩
              · simp [results, Tryz.f9, go_sem, k0, k1]
              · have hR : asmR s = .error (2, an) := by
                  unfold asmR
                  rw [HL.out]
                  exact out_fail HO.out HY.out HAIM.out
                unfold AsmA
                rw [hR]
                exact ⟨⟨w7.heap.size, rfl, hsz, y2.mods mods_turn (show ¬ (w7.heap.size = b9) by omega)⟩, ((HA.out.mods.trans HM7.out).trans' y3 (fun k hk hw => by have := HH.out; have : k = h ∨ k = h + 1 := hk; omega)).trans' mods_turn (fun k hk hw => by have := HH.out; have : k = b9 := hk; omega)⟩
          | true =>
            have HAIM : Hid (aimed t.places (x, tgt, an) i = .ok x1) := Lib.hid (by rw [HAI.out]; rfl)
            have HO4 := Lib.hid (HOR7.out.alloc (.cells (instCells x1.op x1.rd x1.ra x1.rb x1.n) 30))
            have hnew := Lib.hid (inst_new w7 x1)
            have hone := Lib.hid (inst_one x1)
            unfold instCells at HO4 hnew hone
            have hbz : W'.heap.size ≤ w7.heap.size := HM7.out.size
            have hnn := HNN.out
            go_wp2_with (at_builtin; refine wpList_append_own_at _ rfl _ _ 22 rfl W'.heap.size 30 i0 _ 5 40 Tryz.underlying22 HI.out.1 HI.out.2.1 HI.out.2.2.1 HI.out.2.2.2 rfl (by decide) (.slice va i vc) i (insRow acc) rfl HO4.out ⟨w7.heap.size, 0, none⟩ 1 1 [.int .i64 x1.op, .int .i64 x1.rd, .int .i64 x1.ra, .int .i64 x1.rb, .int .i64 x1.n] rfl rfl hnew.out hone.out (by have := HNN.out; unfold maxLen; omega) (by have := HNN.out; omega) (by simp; omega) ?_; intro v' w8 hown hgrow hnil hloc; have HOW := Lib.hid hown; have HGR := Lib.hid hgrow; clear hown hgrow hnil hloc; refine Hid.out ?_)
            refine Lib.hid ?_
            obtain ⟨qa, qc, rfl⟩ := row_form HOW.out
            go_wp2_with fail
            have hmg := Mods.of_grownBy (S := fun k => (Value.slice va i vc).ownBlock = some k) HGR.out (fun k hk _ => hk)
            have hown9 := HOW.out
            rw [show insRow acc ++ [Value.int .i64 x1.op, .int .i64 x1.rd, .int .i64 x1.ra, .int .i64 x1.rb, .int .i64 x1.n] = insRow (acc ++ [x1]) from (insRow_add acc x1).symm] at hown9
            go_roundw
            case rel => exact ⟨i + 1, acc ++ [x1], by omega, by go_num, Lib.hid ⟨hown9, out_next HO.out HY.out HAIM.out, by rw [List.length_append, HO.out.len]; rfl, (HM7.out.alloc _).trans' hmg (fun k hk hw => by have := (HOR7.out.lt k hk).1; omega)⟩⟩
            case measure => simp only [intOf]; omega
        · have htb : (tgt == []) = false := by rw [beq_eq_false_iff_ne]; exact htn
          have htc : (tgt != []) = true := by simpa using htn
          have HR5 := Lib.hid (HRW.out.1.mods HM5.out (fun f => f))
          have HP5 := Lib.hid (HA.out.ptr.mods HM5.out (fun f => f))
          have q4 := HP5.out.cell (i := 0) rfl
          have p1 := HR5.out.cell (i := 1) rfl
          obtain ⟨nm, hsm, hnm⟩ := HA.out.tx.map
          have hlk := ((hsm.mods HM5.out (fun f => f)).mods ((Mods.refl None w5).drew) (fun f => f)).look (a := tgt) (by have := HTG.out; unfold maxLen; omega)
          clear hsm hnm
          unfold placeF at hlk
          cases hf : findP t.places tgt with
          | none =>
            try rw [hf] at hlk
            try simp only [Option.map_none, Option.getD_none, Option.isSome_none] at hlk
            have HAIM : Hid (aimed t.places (x, tgt, an) i = .error (7, an)) := Lib.hid (by unfold aimed; rw [if_pos htn]; simp only; rw [hf])
            have e6 := HB5.out.cell (i := 6) rfl
            have HF0 := Lib.hid (HA.out.res.mods HM5.out (fun f => f))
            have HF1 := Lib.hid (HA.out.err.mods HM5.out (fun f => f))
            have c0 := HF0.out.cell (i := 0) rfl
            have z0 := HF0.out.free 0
            have c1 := HF1.out.cell (i := 0) rfl
            have z1 := HF1.out.free 0
            have l0 := HF0.out.lt
            have l1 := HF1.out.lt
            clear hf
            go_upto_region 14 with (fail)
            go_region
            all_goals
              go_upto_region 16 with (fail)
              go_region
              all_goals
                go_wp2_with fail
                obtain ⟨y0, y1, y2, y3⟩ := fail_world HF0.out HF1.out 7 (an : Int)
                have hb9 := HE9.out
                have hKF := y3.drew.blockOf (HM5.out.blockOf HK.out (fun f => f)) (show ¬ (b9 = h ∨ b9 = h + 1) by omega)
                refine ⟨by simp, .inl ⟨_, _, rfl, run_takeDeferred hKF, ?_⟩⟩
                have k0 := (y0.drew.mods (mods_turn (l := b9) (o' := .deferred none)) (show ¬ (h = b9) by omega)).cell (i := 0) rfl
                have k1 := (y1.drew.mods (mods_turn (l := b9) (o' := .deferred none)) (show ¬ (h + 1 = b9) by omega)).cell (i := 0) rfl
                have hsz := (HA.out.mods.trans HM5.out).size
                have hsz2 := HM5.out.blockOf HK.out (fun f => f)
                have hsz3 := lt_of_block hsz2
                refine ⟨.tuple #[.slice none 0 0, .iface 71 (.pointer (some ⟨w5.heap.size, 0, none⟩))], ?_, ?_⟩
                · simp [results, Tryz.f9, go_sem, k0, k1]
                · have hR : asmR s = .error (7, an) := by
                    unfold asmR
                    rw [HL.out]
                    exact out_fail HO.out HY.out HAIM.out
                  unfold AsmA
                  rw [hR]
                  exact ⟨⟨w5.heap.size, rfl, hsz, y2.drew.mods mods_turn (show ¬ (w5.heap.size = b9) by omega)⟩, ((HA.out.mods.trans HM5.out).trans' y3.drew (fun k hk hw => by have := HH.out; have : k = h ∨ k = h + 1 := hk; omega)).trans' mods_turn (fun k hk hw => by have := HH.out; have : k = b9 := hk; omega)⟩
          | some k =>
            try rw [hf] at hlk
            try simp only [Option.map_some, Option.getD_some, Option.isSome_some] at hlk
            have hkn : k ≤ n := by have := findP_le HSN.out hf; have := HN.out; omega
            have hnn := HNN.out
            obtain ⟨x1, hx1⟩ : ∃ x1, x1 = ({ x with n := ((k : Int) - i) * 4 } : Ins) := ⟨_, rfl⟩
            have HAI : Hid (aimed t.places (x, tgt, an) i = if x1.right = true then .ok x1 else .error (2, an)) := Lib.hid (by rw [hx1]; unfold aimed; rw [if_pos htn]; simp only; rw [hf])
            have z4 := HB5.out.free 4
            have zc := HB5.out.cell (i := 4) rfl
            have zl := HB5.out.lt
            clear hf
            go_upto_region 14 with (fail)
            go_region
            all_goals
              go_upto_region 18 with (fail)
              obtain ⟨w6, hw6⟩ : ∃ w6, w6 = (w5.setCell ⟨bl, 4, none⟩ (.int .i64 (((k : Int) - i) * 4))).drew := ⟨_, rfl⟩
              have HB6 : Hid (Blk w6 bl (lineCells x1 tgt an).toList 74) := Lib.hid (by rw [hx1, hw6]; exact (HB5.out.set 4 _).drew)
              have HM6 : Hid (Mods None W' w6) := Lib.hid (by rw [hw6]; exact (HM5.out.setCell (p := ⟨bl, 4, none⟩) (fun hl => by have := HBL.out; simp only at hl; omega) _).drew)
              have HOR6 : Hid (w6.ownsRow W'.heap.size 30 5 (.slice va i vc) i (insRow acc)) := Lib.hid (by
                rw [hw6]
                exact ((Mods.setCell (S := (· = bl)) (p := ⟨bl, 4, none⟩) (Mods.refl _ w5) (fun _ => rfl) _).drew).ownsRow HOR5.out (fun k hk f => HVB.out k hk f))
              rw [← hw6]
              clear hw6 hx1 HB5 HM5 HOR5 e5 z4 zc zl hlk q4 p1 HR5 HP5
              have e0 := HB6.out.cell (i := 0) rfl
              have e1 := HB6.out.cell (i := 1) rfl
              have e2 := HB6.out.cell (i := 2) rfl
              have e3 := HB6.out.cell (i := 3) rfl
              have e4 := HB6.out.cell (i := 4) rfl
              go_wp2_with fail
              refine (right_ins x1 w6 (HB.out.next (HA.out.mods.trans HM6.out) far_none).forms).mono ?_
              rintro e w7 ⟨rfl, hw7⟩
              have HM7 : Hid (Mods None W' w7) := Lib.hid (by rw [hw7]; exact HM6.out.alloc _)
              have HB7 : Hid (Blk w7 bl (lineCells x1 tgt an).toList 74) := Lib.hid (by rw [hw7]; exact HB6.out.alloc _)
              have HOR7 : Hid (w7.ownsRow W'.heap.size 30 5 (.slice va i vc) i (insRow acc)) := Lib.hid (by rw [hw7]; exact HOR6.out.alloc _)
              clear hw7 e0 e1 e2 e3 e4 HB6 HM6 HOR6
              obtain ⟨rt, hrt⟩ : ∃ rt, rt = x1.right := ⟨_, rfl⟩
              rw [← hrt] at HAI ⊢
              clear hrt
              have e0 := HB7.out.cell (i := 0) rfl
              have e1 := HB7.out.cell (i := 1) rfl
              have e2 := HB7.out.cell (i := 2) rfl
              have e3 := HB7.out.cell (i := 3) rfl
              have e4 := HB7.out.cell (i := 4) rfl
              have e6 := HB7.out.cell (i := 6) rfl
              cases rt with
              | false =>
                have HAIM : Hid (aimed t.places (x, tgt, an) i = .error (2, an)) := Lib.hid (by rw [HAI.out]; rfl)
                have HF0 := Lib.hid (HA.out.res.mods HM7.out (fun f => f))
                have HF1 := Lib.hid (HA.out.err.mods HM7.out (fun f => f))
                have c0 := HF0.out.cell (i := 0) rfl
                have z0 := HF0.out.free 0
                have c1 := HF1.out.cell (i := 0) rfl
                have z1 := HF1.out.free 0
                have l0 := HF0.out.lt
                have l1 := HF1.out.lt
                go_upto_region 19 with (fail)
                go_region
                all_goals
                  go_wp2_with fail
                  obtain ⟨y0, y1, y2, y3⟩ := fail_world HF0.out HF1.out 2 (an : Int)
                  have hb9 := HE9.out
                  have hKF := y3.blockOf (HM7.out.blockOf HK.out (fun f => f)) (show ¬ (b9 = h ∨ b9 = h + 1) by omega)
                  refine ⟨by simp, .inl ⟨_, _, rfl, run_takeDeferred hKF, ?_⟩⟩
                  have k0 := (y0.mods (mods_turn (l := b9) (o' := .deferred none)) (show ¬ (h = b9) by omega)).cell (i := 0) rfl
                  have k1 := (y1.mods (mods_turn (l := b9) (o' := .deferred none)) (show ¬ (h + 1 = b9) by omega)).cell (i := 0) rfl
                  have hsz := (HA.out.mods.trans HM7.out).size
                  have hsz2 := HM7.out.blockOf HK.out (fun f => f)
                  have hsz3 := lt_of_block hsz2
                  refine ⟨.tuple #[.slice none 0 0, .iface 71 (.pointer (some ⟨w7.heap.size, 0, none⟩))], ?_, ?_⟩
                  · simp [results, Tryz.f9, go_sem, k0, k1]
                  · have hR : asmR s = .error (2, an) := by
                      unfold asmR
                      rw [HL.out]
                      exact out_fail HO.out HY.out HAIM.out
                    unfold AsmA
                    rw [hR]
                    exact ⟨⟨w7.heap.size, rfl, hsz, y2.mods mods_turn (show ¬ (w7.heap.size = b9) by omega)⟩, ((HA.out.mods.trans HM7.out).trans' y3 (fun k hk hw => by have := HH.out; have : k = h ∨ k = h + 1 := hk; omega)).trans' mods_turn (fun k hk hw => by have := HH.out; have : k = b9 := hk; omega)⟩
              | true =>
                have HAIM : Hid (aimed t.places (x, tgt, an) i = .ok x1) := Lib.hid (by rw [HAI.out]; rfl)
                have HO4 := Lib.hid (HOR7.out.alloc (.cells (instCells x1.op x1.rd x1.ra x1.rb x1.n) 30))
                have hnew := Lib.hid (inst_new w7 x1)
                have hone := Lib.hid (inst_one x1)
                unfold instCells at HO4 hnew hone
                have hbz : W'.heap.size ≤ w7.heap.size := HM7.out.size
                have hnn := HNN.out
                go_wp2_with (at_builtin; refine wpList_append_own_at _ rfl _ _ 22 rfl W'.heap.size 30 i0 _ 5 40 Tryz.underlying22 HI.out.1 HI.out.2.1 HI.out.2.2.1 HI.out.2.2.2 rfl (by decide) (.slice va i vc) i (insRow acc) rfl HO4.out ⟨w7.heap.size, 0, none⟩ 1 1 [.int .i64 x1.op, .int .i64 x1.rd, .int .i64 x1.ra, .int .i64 x1.rb, .int .i64 x1.n] rfl rfl hnew.out hone.out (by have := HNN.out; unfold maxLen; omega) (by have := HNN.out; omega) (by simp; omega) ?_; intro v' w8 hown hgrow hnil hloc; have HOW := Lib.hid hown; have HGR := Lib.hid hgrow; clear hown hgrow hnil hloc; refine Hid.out ?_)
                refine Lib.hid ?_
                obtain ⟨qa, qc, rfl⟩ := row_form HOW.out
                go_wp2_with fail
                have hmg := Mods.of_grownBy (S := fun k => (Value.slice va i vc).ownBlock = some k) HGR.out (fun k hk _ => hk)
                have hown9 := HOW.out
                rw [show insRow acc ++ [Value.int .i64 x1.op, .int .i64 x1.rd, .int .i64 x1.ra, .int .i64 x1.rb, .int .i64 x1.n] = insRow (acc ++ [x1]) from (insRow_add acc x1).symm] at hown9
                go_roundw
                case rel => exact ⟨i + 1, acc ++ [x1], by omega, by go_num, Lib.hid ⟨hown9, out_next HO.out HY.out HAIM.out, by rw [List.length_append, HO.out.len]; rfl, (HM7.out.alloc _).trans' hmg (fun k hk hw => by have := (HOR7.out.lt k hk).1; omega)⟩⟩
                case measure => simp only [intOf]; omega
      · obtain rfl : i = n := by omega
        have hpi : ¬ (i : Int) < (i : Int) := by omega
        have HF0 := Lib.hid (HA.out.res.mods HO.out.mods (fun f => f))
        have HF1 := Lib.hid (HA.out.err.mods HO.out.mods (fun f => f))
        have c0 := HF0.out.cell (i := 0) rfl
        have z0 := HF0.out.free 0
        have c1 := HF1.out.cell (i := 0) rfl
        have z1 := HF1.out.free 0
        have l0 := HF0.out.lt
        have l1 := HF1.out.lt
        have hR : asmR s = .ok acc := by
          unfold asmR
          rw [HL.out]
          have := HO.out.left
          rw [show t.l.drop i = [] by rw [List.drop_eq_nil_iff, ← HN.out]; exact Nat.le_refl _] at this
          simp only [outR, List.append_nil] at this
          exact this
        have HR := Lib.hid hR
        clear hR
        go_wp2_with fail
        have hb9 := HE9.out
        have y3 : Mods (fun k => k = h ∨ k = h + 1) wr ((wr.setCell ⟨h, 0, none⟩ (.slice va i vc)).setCell ⟨h + 1, 0, none⟩ .nilIface) := ((Mods.refl _ wr).setCell (p := ⟨h, 0, none⟩) (fun _ => .inl rfl) _).setCell (p := ⟨h + 1, 0, none⟩) (fun _ => .inr rfl) _
        have y0 := (HF0.out.set 0 (.slice va i vc)).other (a := ⟨h + 1, 0, none⟩) (show h ≠ h + 1 by omega) .nilIface
        have y1 := (HF1.out.other (a := ⟨h, 0, none⟩) (show h + 1 ≠ h by omega) (.slice va i vc)).set 0 .nilIface
        have hKF := y3.blockOf (HO.out.mods.blockOf HK.out (fun f => f)) (show ¬ (b9 = h ∨ b9 = h + 1) by omega)
        refine ⟨by simp, .inl ⟨_, _, rfl, run_takeDeferred hKF, ?_⟩⟩
        have k0 := (y0.mods (mods_turn (l := b9) (o' := .deferred none)) (show ¬ (h = b9) by omega)).cell (i := 0) rfl
        have k1 := (y1.mods (mods_turn (l := b9) (o' := .deferred none)) (show ¬ (h + 1 = b9) by omega)).cell (i := 0) rfl
        have hlt9 := lt_of_block HK.out
        refine ⟨.tuple #[.slice va i vc, .nilIface], ?_, ?_⟩
        · simp [results, Tryz.f9, go_sem, k0, k1]
        · have hown := mods_turn (l := b9) (o' := .deferred none) |>.ownsRow (y3.ownsRow HO.out.own (fun k hk f => by have := (HO.out.own.lt k hk).1; have := HA.out.res.lt; have := HA.out.err.lt; omega)) (fun k hk f => by
            have f' : k = b9 := f
            have := (HO.out.own.lt k hk).1
            omega)
          have hlen := HO.out.len
          unfold AsmA
          rw [HR.out]
          refine ⟨⟨_, rfl, W'.heap.size, ?_⟩, ((HA.out.mods.trans HO.out.mods).trans' y3 (fun k hk hw => by have := HH.out; have : k = h ∨ k = h + 1 := hk; omega)).trans' mods_turn (fun k hk hw => by have := HH.out; have : k = b9 := hk; omega)⟩
          rw [hlen]
          exact hown
end Go.Proofs.YtodgkbcgdbhpeaaGreatDoor.AsmP

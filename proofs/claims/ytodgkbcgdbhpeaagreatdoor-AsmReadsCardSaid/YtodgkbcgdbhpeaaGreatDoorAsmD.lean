/- A line of a text is read and laid behind the others: (*asm.text).add. Conditions: the tables lie; the text lies. -/
import Derived.Test.YtodgkbcgdbhpeaaGreatDoorAsmR
import Derived.Test.YtodgkbcgdbhpeaaGreatDoorAsmW
import Derived.Test.YtodgkbcgdbhpeaaGreatDoorStepApp
import Derived.Deep.RegionLaw
import Derived.Maps.RangeWalk
import Derived.StringKeys
namespace Go.Proofs.YtodgkbcgdbhpeaaGreatDoor.AsmP
open Go.RowKit Go.Proofs.YtodgkbcgdbhpeaaGreatDoor.WordP Go.Proofs.YtodgkbcgdbhpeaaGreatDoor.Wo Go.Maps
set_option linter.unusedVariables false
set_option linter.unusedSimpArgs false
abbrev DV := DataW Value
theorem strKeys : Keyed Tryz.prog 9 := string_keyed Tryz.underlying9
theorem keyStr {s : List UInt8} (hs : s.length ≤ maxLen) : keyOf Tryz.prog 9 (str s) = some (.string s) := by
  have := WideMaps.keyOf_string_mk (P := Tryz.prog) Tryz.underlying9 (s := ⟨s.toArray⟩) (by
    show s.toArray.size ≤ maxLen
    rw [List.size_toArray]
    exact hs)
  exact this
/-- A map of numbers by names. -/
def SMap (W : World) (bm n : Nat) (F : List UInt8 → Option Int) : Prop :=
  ∃ D : DV, W.ownsMap Tryz.prog 9 (plainElem Tryz.prog 3) bm n D ∧ ∀ (a : List UInt8) (z : DV), D.atKey (.string a) z = (match F a with | some x => .lit (.int .i64 x) | none => z)
theorem SMap.mods {S : Nat → Prop} {W W' : World} {bm n : Nat} {F : List UInt8 → Option Int} (h : SMap W bm n F) (hm : Mods S W W') (hn : ¬ S bm) : SMap W' bm n F := by
  obtain ⟨D, ⟨es, cl, h1, h2⟩, h3⟩ := h
  exact ⟨D, ⟨es, cl, hm.blockOf h1 hn, h2⟩, h3⟩
theorem SMap.lt {W : World} {bm n : Nat} {F : List UInt8 → Option Int} (h : SMap W bm n F) : bm < W.heap.size := by
  obtain ⟨D, h1, _⟩ := h
  exact h1.lt
theorem SMap.new (W : World) : SMap (W.alloc (.map #[] 0)) W.heap.size 0 (fun _ => none) :=
  ⟨_, World.ownsMap_made _ _ _ _, fun s z => rfl⟩
theorem s_zero_int (w : World) : (zeroValue 3).run Tryz.prog w = .ok (.int .i64 0) w := by kernel_rfl
theorem SMap.look {W : World} {bm n : Nat} {F : List UInt8 → Option Int} (h : SMap W bm n F) {a : List UInt8} (ha : a.length ≤ maxLen) :
    (Instr.lookup 63 (.map (some bm)) (.string ⟨a.toArray⟩) true).run Tryz.prog W = .ok (.tuple #[.int .i64 ((F a).getD 0), .bool (F a).isSome]) W := by
  have he := Tryz.underlying3
  obtain ⟨D, h1, h2⟩ := h
  obtain ⟨v, ps, hr, hv⟩ := h1.look_ok strKeys Tryz.underlying63 (s_zero_int W) (zd := .lit (.int .i64 0)) (zp := []) (plainElem_int he (by decide)) (keyStr ha)
  rw [h2 a] at hv
  unfold str at hr
  cases hf : F a with
  | none =>
    rw [hf] at hv
    obtain ⟨c, rfl, hc, hw⟩ := plainElem_int_inv he hv
    simp only [Prod.mk.injEq, DataW.lit.injEq, Lit.int.injEq, true_and] at hc
    rw [hr, has_false_of_atKey (fun z => by rw [h2 a, hf])]
    simp [← hc.1]
  | some x =>
    rw [hf] at hv
    obtain ⟨c, rfl, hc, hw⟩ := plainElem_int_inv he hv
    simp only [Prod.mk.injEq, DataW.lit.injEq, Lit.int.injEq, true_and] at hc
    rw [hr, has_true_of_atKey (y := .lit (.int .i64 x)) (fun z => by rw [h2 a, hf])]
    simp [← hc.1]
theorem wf_of {a : Int} (h : -9223372036854775808 ≤ a ∧ a ≤ 9223372036854775807) : (Lit.int .i64 a).wf = true := by
  simp [Lit.wf, IntKind.min, IntKind.max, IntKind.signed, IntKind.bits]
  omega
theorem SMap.put {W : World} {bm n : Nat} {F : List UInt8 → Option Int} (h : SMap W bm n F) {a : List UInt8} {x : Int} (ha : a.length ≤ maxLen) (hx : -9223372036854775808 ≤ x ∧ x ≤ 9223372036854775807) (hn : n < maxLen) :
    ∃ w', (Instr.mapUpdate 63 (.map (some bm)) (.string ⟨a.toArray⟩) (.int .i64 x)).run Tryz.prog W = .ok () w' ∧ SMap w' bm (n + 1) (fun y => if y = a then some x else F y) ∧ Mods (· = bm) W w' := by
  have he := Tryz.underlying3
  obtain ⟨D, h1, h2⟩ := h
  obtain ⟨w', hr, ho, hg⟩ := h1.update strKeys Tryz.underlying63 hn (keyStr ha) (plainElem_int he (wf_of hx))
  refine ⟨w', hr, ⟨_, ho, fun y z => ?_⟩, Mods.of_grownBy hg (fun k hk _ => by cases hk; rfl)⟩
  by_cases hy : y = a
  · subst hy
    simp only [if_true]
    rw [atKey_put_same (k := .string y) h1.isMap (by trivial)]
  · simp only [if_neg hy]
    rw [atKey_put_other (by simpa using hy), h2 y]
def flatL (l : List (Ins × List UInt8 × Nat)) : List Value := l.flatMap fun y => (lineCells y.1 y.2.1 y.2.2).toList
def placeF (ps : List (List UInt8 × Nat)) (a : List UInt8) : Option Int := (findP ps a).map fun k => (k : Int)
/-- A text lies: K are the blocks that are kept. -/
structure TxAt (W : World) (K : Nat → Prop) (tb mb : Nat) (t : TxS) : Prop where
  row : ∃ lv, Blk W tb [lv, .map (some mb)] 66 ∧ W.ownsRow 0 74 7 lv t.l.length (flatL t.l) ∧ ∀ k, lv.ownBlock = some k → ¬ K k ∧ k ≠ tb ∧ k ≠ mb
  map : ∃ n, SMap W mb n (placeF t.places) ∧ n ≤ t.places.length
  ne : ¬ K tb ∧ ¬ K mb ∧ tb ≠ mb
  room : ∀ k, K k → k < W.heap.size
/-- What add answers. -/
def AddP (s : List UInt8) (an : Nat) (t : TxS) (K : Nat → Prop) (tb mb : Nat) (W : World) (e : Ending) (w : World) : Prop :=
  (match addR s an t with
  | .ok t' => e = .returned (.int .i64 0) ∧ TxAt w K tb mb t'
  | .error c => e = .returned (.int .i64 c) ∧ c ≠ 0) ∧ Mods (fun k => ¬ K k) W w
theorem TxAt.next {S : Nat → Prop} {W W' : World} {K : Nat → Prop} {tb mb : Nat} {t : TxS} (h : TxAt W K tb mb t) (hm : Mods S W W') (hS : ∀ k, S k → W.heap.size ≤ k) : TxAt W' K tb mb t := by
  obtain ⟨⟨lv, h1, h2, h3⟩, ⟨n, h4, h5⟩, h6, h7⟩ := h
  refine ⟨⟨lv, h1.mods hm (fun f => by have := hS _ f; have := h1.lt; omega), hm.ownsRow h2 (fun k hk f => ?_), h3⟩, ⟨n, h4.mods hm (fun f => by have := hS _ f; have := h4.lt; omega), h5⟩, h6, fun k hk => Nat.lt_of_lt_of_le (h7 k hk) hm.size⟩
  have := hS _ f
  have := (h2.lt k hk).2
  omega
theorem splitL_len (c : UInt8) : (s : List UInt8) → (∀ w ∈ splitL c s, w.length ≤ s.length) ∧ (splitL c s).length ≤ s.length + 1
  | [] => by simp [splitL]
  | d :: r => by
    obtain ⟨h1, h2⟩ := splitL_len c r
    simp only [splitL]
    split
    · refine ⟨fun w hw => ?_, by simp; omega⟩
      rcases List.mem_cons.1 hw with rfl | hw
      · simp
      · have := h1 w hw
        simp; omega
    · cases hs : splitL c r with
      | nil => exact absurd hs (splitL_ne c r)
      | cons p ps =>
        rw [hs] at h1 h2
        refine ⟨fun w hw => ?_, by simp at h2 ⊢; omega⟩
        rcases List.mem_cons.1 hw with rfl | hw
        · have := h1 p (by simp)
          simp; omega
        · have := h1 w (by simp [hw])
          simp; omega

theorem line_info : (Tryz.prog.info? 74).map (fun i => (i.zero, i.size, i.bytes)) = some (some (.agg #[.int .i64 0, .int .i64 0, .int .i64 0, .int .i64 0, .int .i64 0, .string ⟨#[]⟩, .int .i64 0]), 7, 64) := by kernel_rfl
theorem placeF_cons (v : List UInt8) (k : Nat) (ps : List (List UInt8 × Nat)) : placeF ((v, k) :: ps) = fun y => if y = v then some (k : Int) else placeF ps y := by
  funext y
  unfold placeF findP
  rw [List.find?_cons]
  by_cases h : y = v
  · subst h
    simp
  · have : (v == y) = false := by rw [beq_eq_false_iff_ne]; exact fun e => h e.symm
    simp [this, h]
theorem far_of {K : Nat → Prop} (hK : ∀ k, k < 12 → K k) : Far (fun k => ¬ K k) := fun k hk => by
  rcases Nat.lt_or_ge k 12 with h | h
  · exact absurd (hK k h) hk
  · exact h
theorem mods_K {S : Nat → Prop} {W W' : World} {K : Nat → Prop} (hm : Mods S W W') (hS : ∀ k, S k → k < W.heap.size → ¬ K k) : Mods (fun k => ¬ K k) W W' := hm.mono (fun k hk h => hS k h hk)
theorem op_range (n : List UInt8) : -1 ≤ opOf n ∧ opOf n ≤ 31 := by
  unfold opOf
  cases h : nameList.findIdx? (fun m => m == n) with
  | none => simp
  | some i =>
    have := (List.findIdx?_eq_some_iff_getElem.1 h).1
    have h32 : nameList.length = 32 := rfl
    simp only
    omega
theorem trimB_len (s : List UInt8) (c : UInt8) : (Lib.trimB s c).length ≤ s.length := by
  unfold Lib.trimB Lib.trimRightB Lib.trimLeftB
  have h1 := (List.dropWhile_sublist (l := s) (fun x => x == c)).length_le
  have h2 := (List.dropWhile_sublist (l := (s.reverse.dropWhile (fun x => x == c))) (fun x => x == c)).length_le
  have h3 := (List.dropWhile_sublist (l := s.reverse) (fun x => x == c)).length_le
  simp only [List.length_reverse] at *
  first
    | omega
    | (refine Nat.le_trans (List.dropWhile_sublist _).length_le ?_; simp only [List.length_reverse]; omega)
theorem flatL_add (l : List (Ins × List UInt8 × Nat)) (x : Ins) (tgt : List UInt8) (an : Nat) : flatL (l ++ [(x, tgt, an)]) = flatL l ++ (lineCells x tgt an).toList := by
  unfold flatL
  simp
theorem TxAt.grow {w6 w7 : World} {K : Nat → Prop} {tb mb : Nat} {t : TxS} {x : Ins} {tgt : List UInt8} {an : Nat} {lv v' : Value} {o : Obj} (hT : TxAt w6 K tb mb t) (hb : Blk w6 tb [lv, .map (some mb)] 66)
    (hk : ∀ k, lv.ownBlock = some k → ¬ K k ∧ k ≠ tb ∧ k ≠ mb) (hg : ((w6.alloc o).drew).grownBy w7 lv.ownBlock) (hl : v'.ownBlock = lv.ownBlock ∨ v'.ownBlock = some ((w6.alloc o).drew).heap.size)
    (ho : w7.ownsRow 0 74 7 v' (t.l.length + 1) (flatL t.l ++ (lineCells x tgt an).toList)) :
    TxAt (w7.setCell ⟨tb, 0, none⟩ v') K tb mb { t with l := t.l ++ [(x, tgt, an)] } ∧ Mods (fun k => ¬ K k) w6 (w7.setCell ⟨tb, 0, none⟩ v') := by
  have hm0 : Mods None w6 ((w6.alloc o).drew) := ((Mods.refl _ _).alloc _).drew
  have hm7 : Mods (fun k => lv.ownBlock = some k) w6 w7 := (hm0.mono fun _ _ f => f.elim).trans' (Mods.of_grownBy (S := fun k => lv.ownBlock = some k) hg (fun k hk _ => hk)) (fun k hk _ => hk)
  have hsz : ((w6.alloc o).drew).heap.size = w6.heap.size + 1 := by simp
  have hv : ∀ k, v'.ownBlock = some k → ¬ K k ∧ k ≠ tb ∧ k ≠ mb := fun k h => by
    rcases hl with e | e
    · exact hk k (by rw [← e]; exact h)
    · rw [e, hsz] at h
      have h1 := hT.room
      have h2 := hb.lt
      obtain ⟨n, h3, -⟩ := hT.map
      have h3 := h3.lt
      have hk' : w6.heap.size + 1 = k := Option.some.inj h
      exact ⟨fun f => by have := h1 _ f; omega, by omega, by omega⟩
  have hms : Mods (· = tb) w7 (w7.setCell ⟨tb, 0, none⟩ v') := Mods.setCell (S := (· = tb)) (p := ⟨tb, 0, none⟩) (Mods.refl _ _) (fun _ => rfl) _
  have hmK : Mods (fun k => ¬ K k) w6 w7 := hm7.mono (fun k _ h => (hk k h).1)
  refine ⟨⟨⟨v', (hb.mods hm7 (fun f => (hk _ f).2.1 rfl)).set 0 v', ?_, hv⟩, ?_, hT.ne, fun k h => Nat.lt_of_lt_of_le (hT.room k h) (Nat.le_trans hm7.size hms.size)⟩, hmK.trans (hms.mono fun k _ h => by
    have h' : k = tb := h
    rw [h']
    exact hT.ne.1)⟩
  · have := hms.ownsRow ho (fun k h => (hv k h).2.1)
    rw [flatL_add]
    simpa using this
  · obtain ⟨n, h3, h4⟩ := hT.map
    exact ⟨n, (h3.mods hm7 (fun f => (hk _ f).2.2 rfl)).mods hms (fun e => hT.ne.2.2 e.symm), h4⟩
theorem line_new (w6 : World) (x : Ins) (tgt : List UInt8) (an : Nat) : ∀ j u, (lineCells x tgt an).toList[j]? = some u → ((w6.alloc (.cells (lineCells x tgt an) 74)).drew).cell? ((⟨w6.heap.size, 0, none⟩ : Addr).add j) = some u := fun j u h => by
  have := (Blk.new w6 (lineCells x tgt an) 74).drew.cell h
  have e : (⟨w6.heap.size, 0, none⟩ : Addr).add j = ⟨w6.heap.size, j, none⟩ := by cases j <;> simp [Addr.add]
  rw [e]
  exact this
theorem line_one (x : Ins) (tgt : List UInt8) (an : Nat) : ∀ u ∈ (lineCells x tgt an).toList, u.oneCell' = true := fun u hu => by
  unfold lineCells str at hu
  simp only [List.mem_cons, List.not_mem_nil, or_false] at hu
  rcases hu with rfl | rfl | rfl | rfl | rfl | rfl | rfl <;> rfl
theorem row_form {W : World} {B : Nat} {e : TypeId} {size n : Nat} {v : Value} {vs : List Value} (h : W.ownsRow B e size v n vs) : ∃ oa oc, v = .slice oa n oc := by
  rcases h.2 with ⟨hv, h0⟩ | ⟨g, cap, cur, hv, _⟩
  · exact ⟨_, _, by rw [hv, h0]⟩
  · exact ⟨_, _, hv⟩
theorem text_cell {w6 w7 : World} {K : Nat → Prop} {tb mb : Nat} {lv : Value} {o : Obj} (hb : Blk w6 tb [lv, .map (some mb)] 66) (hk : ∀ k, lv.ownBlock = some k → ¬ K k ∧ k ≠ tb ∧ k ≠ mb) (hg : ((w6.alloc o).drew).grownBy w7 lv.ownBlock) :
    w7.cell? ⟨tb, 0, none⟩ = some lv ∧ w7.frozen? ⟨tb, 0, none⟩ = false ∧ tb < w7.heap.size := by
  have h : Blk w7 tb [lv, .map (some mb)] 66 := ((hb.alloc o).drew).mods (Mods.of_grownBy (S := fun k => lv.ownBlock = some k) hg (fun k hk _ => hk)) (fun f => (hk _ f).2.1 rfl)
  exact ⟨h.cell rfl, h.free 0, h.lt⟩
theorem lineT_colon {u v : List UInt8} (h : Lib.hasSuffix u [58] = true) (hv : v = Lib.trimSuffix u [58]) : lineT u = if nameB v = true then .place v else .bad := by
  unfold lineT
  rw [if_pos h, ← hv]
theorem lineT_blank : lineT [] = .blank := rfl
theorem lineT_op {u p q : List UInt8} {more : Bool} (h : Lib.hasSuffix u [58] = false) (h0 : u ≠ []) (hc : cutL 32 u = (p, q, more)) : lineT u = if opOf p < 1 then .bad else match partsR (partsOf (opOf p)) (if more = true then splitL 44 (Lib.trimB q 32) else []) ⟨opOf p, 0, 0, 0, 0⟩ [] with
    | some p => .inst p.1 p.2
    | none => .bad := by
  unfold lineT wordsR
  rw [if_neg (by rw [h]; decide), if_neg h0, hc]
  rfl
theorem add_err {s : List UInt8} {an : Nat} {t : TxS} {K : Nat → Prop} {tb mb : Nat} {W w : World} {c : Int} (h : addR s an t = .error c) (hc : c ≠ 0) (hm : Mods (fun k => ¬ K k) W w) : AddP s an t K tb mb W (.returned (.int .i64 c)) w := by
  unfold AddP
  rw [h]
  exact ⟨⟨rfl, hc⟩, hm⟩
theorem add_ok {s : List UInt8} {an : Nat} {t t' : TxS} {K : Nat → Prop} {tb mb : Nat} {W w : World} (h : addR s an t = .ok t') (ht : TxAt w K tb mb t') (hm : Mods (fun k => ¬ K k) W w) : AddP s an t K tb mb W (.returned (.int .i64 0)) w := by
  unfold AddP
  rw [h]
  exact ⟨⟨rfl, ht⟩, hm⟩
theorem addR_bad {s u : List UInt8} {an : Nat} {t : TxS} (hu : u = Lib.trimB s 32) (h : lineT u = .bad) : addR s an t = .error 3 := by
  unfold addR lineR
  rw [← hu, h]
theorem addR_blank {s u : List UInt8} {an : Nat} {t : TxS} (hu : u = Lib.trimB s 32) (h : lineT u = .blank) : addR s an t = .ok t := by
  unfold addR lineR
  rw [← hu, h]
theorem addR_twice {s u n : List UInt8} {an k : Nat} {t : TxS} (hu : u = Lib.trimB s 32) (h : lineT u = .place n) (hf : findP t.places n = some k) : addR s an t = .error 9 := by
  unfold addR lineR
  rw [← hu, h]
  simp only [hf]
theorem addR_place {s u n : List UInt8} {an : Nat} {t : TxS} (hu : u = Lib.trimB s 32) (h : lineT u = .place n) (hf : findP t.places n = none) : addR s an t = .ok { t with places := (n, t.l.length) :: t.places } := by
  unfold addR lineR
  rw [← hu, h]
  simp only [hf]
theorem addR_inst {s u : List UInt8} {an : Nat} {t : TxS} {x : Ins} {tgt : List UInt8} (hu : u = Lib.trimB s 32) (h : lineT u = .inst x tgt) : addR s an t = .ok { t with l := t.l ++ [(x, tgt, an)] } := by
  unfold addR lineR
  rw [← hu, h]
set_option maxRecDepth 100000 in
set_option maxHeartbeats 4000000 in
theorem add_any (s : List UInt8) (hs : s.length ≤ 1000000) (an : Nat) (han : an ≤ 2000000) (t : TxS) (ht : t.l.length ≤ 2000000 ∧ t.places.length ≤ 2000000) (K : Nat → Prop) (hK : ∀ k, k < 12 → K k) (tb mb : Nat) (W : World) (hB : Base W) (hT : TxAt W K tb mb t) :
    Calls Tryz.prog 29 #[.pointer (some ⟨tb, 0, none⟩), str s, .int .i64 an] W (AddP s an t K tb mb W) := by
  obtain ⟨i0, hi, hz0, hz1, hz2⟩ := info_parts line_info
  have HI := Lib.hid (⟨hi, hz0, hz1, hz2⟩ : _ ∧ _ ∧ _ ∧ _)
  have HB := Lib.hid hB
  have HT := Lib.hid hT
  have HK := Lib.hid (far_of hK)
  have HS := Lib.hid hs
  have HN := Lib.hid (And.intro han ht)
  have HZ : Hid (∀ (w' : World), Mods None W w' → Mods (fun k => ¬ K k) W w') := Lib.hid (fun w' hm => mods_K hm (fun k h _ => h.elim))
  have HU := Lib.hid (show (Lib.trimB s 32).length ≤ 1000000 by have := trimB_len s 32; omega)
  have HTR := Lib.hid (trim1_any s hs)
  clear hB hT hK hs han hi hz0 hz1 hz2 ht
  obtain ⟨u, hu⟩ : ∃ u, u = Lib.trimB s 32 := ⟨_, rfl⟩
  rw [← hu] at HU HTR
  have HUE := Lib.hid hu
  clear hu
  unfold str at HTR ⊢
  go_enter Tryz.func29, Tryz.ntmps29
  go_wp2_with fail
  refine (HTR.out W).mono ?_
  rintro e w1 ⟨rfl, hm1⟩
  have HM1 := Lib.hid hm1
  clear hm1 HTR
  go_wp2_with fail
  refine (cuts_any u 58 HU.out w1).mono ?_
  rintro e w' ⟨rfl, rfl⟩
  obtain ⟨w1, rfl⟩ : ∃ q : World, q = w' := ⟨_, rfl⟩
  obtain ⟨col, hcol⟩ : ∃ col, col = Lib.hasSuffix u [58] := ⟨_, rfl⟩
  rw [← hcol]
  have HCOL := Lib.hid hcol
  clear hcol
  cases col with
  | true =>
    obtain ⟨v, hv⟩ : ∃ v, v = Lib.trimSuffix u [58] := ⟨_, rfl⟩
    have HV : Hid (v.length ≤ 1000000) := Lib.hid (by rw [hv]; exact trims_len u 58 HU.out)
    rw [← hv]
    have HLT := Lib.hid (lineT_colon HCOL.out.symm hv)
    clear hv
    unfold str
    go_wp2_with fail
    refine (name_any v HV.out w1).mono ?_
    rintro e w2 ⟨rfl, hm2⟩
    have HM2 := Lib.hid (HM1.out.trans hm2)
    clear hm2 HM1
    obtain ⟨nb, hnb⟩ : ∃ nb, nb = nameB v := ⟨_, rfl⟩
    rw [← hnb] at HLT ⊢
    clear hnb
    cases nb with
    | false =>
      go_wp2_with fail
      go_ret
      exact add_err (addR_bad HUE.out (by rw [HLT.out]; rfl)) (by decide) (HZ.out _ HM2.out)
    | true =>
      obtain ⟨⟨lv, h1, h2, h3⟩, ⟨n, h4, h5⟩, h6, h7⟩ := HT.out.next HM2.out (fun k h => h.elim)
      obtain ⟨oa, oc, rfl⟩ : ∃ oa oc, lv = .slice oa t.l.length oc := by
        rcases h2.2 with ⟨hv, h0⟩ | ⟨g, cap, cur, hv, _⟩
        · exact ⟨_, _, by rw [hv, h0]⟩
        · exact ⟨_, _, hv⟩
      have q0 := h1.cell (i := 0) rfl
      have q1 := h1.cell (i := 1) rfl
      have hlk := h4.look (a := v) (by have := HV.out; unfold maxLen; omega)
      unfold placeF at hlk
      have HROW := Lib.hid (And.intro h1 (And.intro h2 h3))
      have HMAP := Lib.hid (And.intro h4 (And.intro h5 (And.intro h6 h7)))
      clear h1 h2 h3 h4 h5 h6 h7
      cases hf : findP t.places v with
      | some k =>
        try rw [hf] at hlk
        try simp only [Option.map_some, Option.getD_some, Option.isSome_some] at hlk
        have HF := Lib.hid hf
        clear hf
        go_wp2_with fail
        go_ret
        exact add_err (addR_twice HUE.out (by rw [HLT.out]; rfl) HF.out) (by decide) (HZ.out _ HM2.out)
      | none =>
        try rw [hf] at hlk
        try simp only [Option.map_none, Option.getD_none, Option.isSome_none] at hlk
        obtain ⟨w3, hup, hsm, hm3⟩ := (HMAP.out.1.mods ((Mods.refl None w2).drew) (fun f => f)).put (a := v) (x := (t.l.length : Int)) (by have := HV.out; unfold maxLen; omega) (by have := HN.out; omega) (by have := HMAP.out.2.1; have := HN.out; unfold maxLen; omega)
        have HSM := Lib.hid hsm
        have HM3 := Lib.hid hm3
        have HF := Lib.hid hf
        clear hf hsm hm3
        have hz0 := HROW.out.1.lt
        go_upto_region 9 with (fail)
        go_region
        all_goals
          go_wp2_with fail
          go_ret
          exact add_ok (addR_place HUE.out (by rw [HLT.out]; rfl) HF.out) ⟨⟨_, (HROW.out.1.drew).mods HM3.out HMAP.out.2.2.1.2.2, HM3.out.ownsRow (((Mods.refl None w2).drew).ownsRow HROW.out.2.1 (fun k hk f => f)) (fun k hk f => (HROW.out.2.2 k hk).2.2 f), HROW.out.2.2⟩, ⟨n + 1, by rw [placeF_cons]; exact HSM.out, by have := HMAP.out.2.1; simp only [List.length_cons]; omega⟩, HMAP.out.2.2.1, fun k hk => Nat.lt_of_lt_of_le (HMAP.out.2.2.2 k hk) HM3.out.size⟩ (((HZ.out _ HM2.out).drew).trans (HM3.out.mono (fun k _ h => by
            have h' : k = mb := h
            rw [h']
            exact HMAP.out.2.2.1.2.1)))
  | false =>
    by_cases h0 : u = []
    · subst h0
      go_wp2_with fail
      go_ret
      exact add_ok (addR_blank HUE.out lineT_blank) (HT.out.next HM1.out (fun k h => h.elim)) (HZ.out _ HM1.out)
    · have hu0 : (u == []) = false := by rw [beq_eq_false_iff_ne]; exact h0
      obtain ⟨⟨p, q, more⟩, hcut⟩ : ∃ r, cutL 32 u = r := ⟨_, rfl⟩
      have HLT := Lib.hid (lineT_op HCOL.out.symm h0 hcut)
      have HPL := Lib.hid (cut_len hcut HU.out)
      have HB1 := Lib.hid (HB.out.next HM1.out far_none)
      have HCUT := Lib.hid hcut
      clear hcut
      go_wp2_with fail
      refine (cut_any u 32 HU.out w1 HB1.out).mono ?_
      rintro e w2 ⟨rfl, hm2⟩
      rw [HCUT.out]
      have HM2 := Lib.hid (HM1.out.trans hm2)
      have HB2 := Lib.hid (HB1.out.next hm2 far_none)
      clear hm2 HM1 HB1 HCUT
      unfold str
      go_wp2_with fail
      refine (names_any p w2 HB2.out).mono ?_
      rintro e w' ⟨rfl, rfl⟩
      obtain ⟨w2, rfl⟩ : ∃ q : World, q = w' := ⟨_, rfl⟩
      obtain ⟨op, hop⟩ : ∃ op, op = opOf p := ⟨_, rfl⟩
      have hr := op_range p
      rw [← hop] at HLT hr ⊢
      clear hop
      by_cases h1 : op < 1
      · go_wp2_with fail
        go_ret
        exact add_err (addR_bad HUE.out (by rw [HLT.out, if_pos h1])) (by decide) (HZ.out _ HM2.out)
      · have HLT2 : Hid (lineT u = match partsR (partsOf op) (if more = true then splitL 44 (Lib.trimB q 32) else []) ⟨op, 0, 0, 0, 0⟩ [] with
          | some p => .inst p.1 p.2
          | none => .bad) := Lib.hid (by rw [HLT.out, if_neg h1])
        clear HLT
        have HOP := Lib.hid hr
        clear hr
        obtain ⟨ws, hws⟩ : ∃ ws, ws = (if more = true then splitL 44 (Lib.trimB q 32) else []) := ⟨_, rfl⟩
        rw [← hws] at HLT2
        cases more with
        | false =>
          obtain ⟨oa, hoa⟩ : ∃ oa : Option Addr, oa = none := ⟨_, rfl⟩
          obtain ⟨oc, hoc⟩ : ∃ oc : Nat, oc = 0 := ⟨_, rfl⟩
          have hws' : ws = [] := by rw [hws]; rfl
          obtain ⟨n, hn⟩ : ∃ n, n = ws.length := ⟨_, rfl⟩
          have HWD : Hid (WordsAt w2 w2.heap.size oa ws) := Lib.hid ⟨fun j w h => by rw [hws'] at h; simp at h, fun w h => by rw [hws'] at h; simp at h⟩
          have HWL : Hid (ws.length ≤ 2000000) := Lib.hid (by rw [hws']; simp)
          have HNW := Lib.hid hn
          go_upto_region 20 with (fail)
          have ev : Value.slice none 0 0 = Value.slice oa n oc := by rw [hoa, hoc, hn, hws']; rfl
          rw [ev]
          clear ev hn hoa hoc hws' hws
          go_wp2_with fail
          obtain ⟨w4, rfl⟩ : ∃ q : World, q = w2 := ⟨_, rfl⟩
          have HM4 := HM2
          obtain ⟨w5, hw5⟩ : ∃ w5, w5 = w4.alloc (.cells (lineCells ⟨op, 0, 0, 0, 0⟩ [] an) 74) := ⟨_, rfl⟩
          obtain ⟨bl, hbl⟩ : ∃ bl, bl = w4.heap.size := ⟨_, rfl⟩
          have HM5 : Hid (Mods None W w5) := Lib.hid (by rw [hw5]; exact HM4.out.alloc _)
          have HBK5 : Hid (Blk w5 bl (lineCells ⟨op, 0, 0, 0, 0⟩ [] an).toList 74) := Lib.hid (by rw [hw5, hbl]; exact Blk.new w4 _ _)
          have HWD5 : Hid (WordsAt w5 bl oa ws) := Lib.hid (by
            have := HWD.out
            rw [← hbl] at this
            exact this.next (by rw [hw5]; exact (Mods.refl _ _).alloc _))
          have HBL : Hid (W.heap.size ≤ bl ∧ 12 ≤ bl) := Lib.hid (by have := HM4.out.size; have := HB.out.room; omega)
          have e5 : w4.alloc (.cells #[.int .i64 op, .int .i64 0, .int .i64 0, .int .i64 0, .int .i64 0, .string ⟨#[]⟩, .int .i64 an] 74) = w5 := hw5.symm
          have HB5 := Lib.hid (HB.out.next HM5.out far_none)
          rw [e5, ← hbl]
          clear e5 hw5 hbl HM4 HWD
          refine (parts_any op w5).mono ?_
          rintro e w' ⟨rfl, hw'⟩
          rw [hw']
          clear hw'
          go_wp2_with fail
          have HRD := read_any (partsOf op) (parts_in op) ws oa oc ⟨op, 0, 0, 0, 0⟩ an bl HBL.out.2 w5 HB5.out HWD5.out HBK5.out HWL.out
          rw [← HNW.out] at HRD
          refine HRD.mono ?_
          rintro e w6 ⟨b, x, tgt, rfl, hb, hbk, hm6⟩
          have HM6 : Hid (Mods None W w6) := Lib.hid (HM5.out.trans' hm6 (fun k hk h => by have := HBL.out.1; omega))
          have HBD := Lib.hid hb
          have HBK := Lib.hid hbk
          clear hb hbk hm6 HRD HBK5 HWD5 HB5 HM5
          cases b with
          | false =>
            go_wp2_with fail
            go_ret
            refine add_err (addR_bad HUE.out ?_) (by decide) (HZ.out _ HM6.out)
            rcases HBD.out with ⟨h, -⟩ | ⟨-, h⟩
            · cases h
            · rw [HLT2.out, h]
          | true =>
            have HPR : Hid (lineT u = .inst x tgt) := Lib.hid (by
              rcases HBD.out with ⟨-, h⟩ | ⟨h, -⟩
              · rw [HLT2.out, h]
              · cases h)
            have HT6 := Lib.hid (HT.out.next HM6.out (fun k h => h.elim))
            obtain ⟨lv, hb1, hb2, hb3⟩ := HT6.out.row
            obtain ⟨ra, rc, rfl⟩ : ∃ ra rc, lv = .slice ra t.l.length rc := by
              rcases hb2.2 with ⟨hv, h0⟩ | ⟨g, cap, cur, hv, _⟩
              · exact ⟨_, _, by rw [hv, h0]⟩
              · exact ⟨_, _, hv⟩
            have hm2 : Mods None w6 ((w6.alloc (.cells (lineCells x tgt an) 74)).drew) := ((Mods.refl _ _).alloc _).drew
            have HOA := Lib.hid (hm2.ownsRow hb2 (fun k hk f => f))
            have HTB := Lib.hid (And.intro hb1 hb3)
            have c0 := hb1.cell (i := 0) rfl
            have f0 := hb1.free 0
            have hlt := hb1.lt
            have d0 := HBK.out.cell (i := 0) rfl
            have d1 := HBK.out.cell (i := 1) rfl
            have d2 := HBK.out.cell (i := 2) rfl
            have d3 := HBK.out.cell (i := 3) rfl
            have d4 := HBK.out.cell (i := 4) rfl
            have d5 := HBK.out.cell (i := 5) rfl
            have d6 := HBK.out.cell (i := 6) rfl
            have hnew := Lib.hid (line_new w6 x tgt an)
            have hone := Lib.hid (line_one x tgt an)
            obtain ⟨xo, xd, xa, xb, xn⟩ := x
            unfold lineCells str at *
            simp only at *
            clear hb1 hb2 hb3 hm2
            go_upto_region 23 with (fail)
            go_region_law (refine step_append_at rfl (.tmp 78) (.tmp 80) 64 rfl 0 74 i0 _ 7 64 Tryz.underlying64 HI.out.1 HI.out.2.1 HI.out.2.2.1 HI.out.2.2.2 rfl (by decide) (.slice ra t.l.length rc) t.l.length (flatL t.l) (by simp [Act.eval, Act.put]) HOA.out ⟨w6.heap.size, 0, none⟩ 1 1 [.int .i64 xo, .int .i64 xd, .int .i64 xa, .int .i64 xb, .int .i64 xn, .string ⟨tgt.toArray⟩, .int .i64 an] (by simp [Act.eval, Act.put]) rfl hnew.out hone.out (by have := HN.out; unfold maxLen; omega) (by have := HN.out; omega) (Nat.zero_le _) ?_; intro v' w7 hown hgrow hloc; have HOW := Lib.hid hown; have HGR := Lib.hid (And.intro hgrow hloc); obtain ⟨c70, z70, l70⟩ := text_cell HTB.out.1 HTB.out.2 hgrow; clear hown hgrow hloc; obtain ⟨qa, qc, rfl⟩ := row_form HOW.out)
            all_goals
              go_wp2_with fail
              go_ret
              have hg := HT6.out.grow (x := ⟨xo, xd, xa, xb, xn⟩) (tgt := tgt) (an := an) HTB.out.1 HTB.out.2 HGR.out.1 HGR.out.2 HOW.out
              exact add_ok (addR_inst HUE.out HPR.out) hg.1 ((HZ.out _ HM6.out).trans hg.2)
        | true =>
          have hws' : ws = splitL 44 (Lib.trimB q 32) := by rw [hws]; rfl
          have hq := trimB_len q 32
          have hsl := splitL_len 44 (Lib.trimB q 32)
          have HQ : Hid ((Lib.trimB q 32).length ≤ 1000000) := Lib.hid (by have := HPL.out.2; omega)
          have HWL : Hid (ws.length ≤ 2000000) := Lib.hid (by rw [hws']; have := HQ.out; omega)
          have HSH : Hid (∀ w ∈ ws, w.length ≤ 1000000) := Lib.hid (by
            rw [hws']
            intro w hw
            have := hsl.1 w hw
            have := HQ.out
            omega)
          have HWS := Lib.hid hws'
          clear hws hws' hq hsl
          go_wp2_with fail
          refine (trim1_any q HPL.out.2 w2).mono ?_
          rintro e w3 ⟨rfl, hm3⟩
          have HM3 := Lib.hid (HM2.out.trans hm3)
          have HB3 := Lib.hid (HB2.out.next hm3 far_none)
          clear hm3 HM2 HB2
          go_wp2_with fail
          refine (split_any (Lib.trimB q 32) 44 HQ.out w3 HB3.out).mono ?_
          rintro e w4 ⟨rfl, hw4⟩
          rw [← HWS.out]
          have HM4 : Hid (Mods None W w4) := Lib.hid (by rw [hw4]; exact HM3.out.alloc _)
          have HWD : Hid (WordsAt w4 w4.heap.size (some ⟨w3.heap.size, 0, none⟩) ws) := Lib.hid ⟨fun j w h => ⟨w3.heap.size, rfl, by rw [hw4]; simp, by
            rw [hw4, ← HWS.out]
            exact (Blk.new w3 (ws.map str).toArray 9).cell (by rw [List.toList_toArray, List.getElem?_map, h]; rfl)⟩, HSH.out⟩
          obtain ⟨oa, hoa⟩ : ∃ oa : Option Addr, oa = some ⟨w3.heap.size, 0, none⟩ := ⟨_, rfl⟩
          obtain ⟨n, hn⟩ : ∃ n, n = ws.length := ⟨_, rfl⟩
          obtain ⟨oc, hoc⟩ : ∃ oc : Nat, oc = ws.length := ⟨_, rfl⟩
          have HNW := Lib.hid hn
          rw [← hoa] at HWD ⊢
          have ev : Value.slice oa ws.length ws.length = Value.slice oa n oc := by rw [hn, hoc]
          rw [ev]
          clear ev hn hoa hoc hw4 HM3 HB3
          go_wp2_with fail
          obtain ⟨w5, hw5⟩ : ∃ w5, w5 = w4.alloc (.cells (lineCells ⟨op, 0, 0, 0, 0⟩ [] an) 74) := ⟨_, rfl⟩
          obtain ⟨bl, hbl⟩ : ∃ bl, bl = w4.heap.size := ⟨_, rfl⟩
          have HM5 : Hid (Mods None W w5) := Lib.hid (by rw [hw5]; exact HM4.out.alloc _)
          have HBK5 : Hid (Blk w5 bl (lineCells ⟨op, 0, 0, 0, 0⟩ [] an).toList 74) := Lib.hid (by rw [hw5, hbl]; exact Blk.new w4 _ _)
          have HWD5 : Hid (WordsAt w5 bl oa ws) := Lib.hid (by
            have := HWD.out
            rw [← hbl] at this
            exact this.next (by rw [hw5]; exact (Mods.refl _ _).alloc _))
          have HBL : Hid (W.heap.size ≤ bl ∧ 12 ≤ bl) := Lib.hid (by have := HM4.out.size; have := HB.out.room; omega)
          have e5 : w4.alloc (.cells #[.int .i64 op, .int .i64 0, .int .i64 0, .int .i64 0, .int .i64 0, .string ⟨#[]⟩, .int .i64 an] 74) = w5 := hw5.symm
          have HB5 := Lib.hid (HB.out.next HM5.out far_none)
          rw [e5, ← hbl]
          clear e5 hw5 hbl HM4 HWD
          refine (parts_any op w5).mono ?_
          rintro e w' ⟨rfl, hw'⟩
          rw [hw']
          clear hw'
          go_wp2_with fail
          have HRD := read_any (partsOf op) (parts_in op) ws oa oc ⟨op, 0, 0, 0, 0⟩ an bl HBL.out.2 w5 HB5.out HWD5.out HBK5.out HWL.out
          rw [← HNW.out] at HRD
          refine HRD.mono ?_
          rintro e w6 ⟨b, x, tgt, rfl, hb, hbk, hm6⟩
          have HM6 : Hid (Mods None W w6) := Lib.hid (HM5.out.trans' hm6 (fun k hk h => by have := HBL.out.1; omega))
          have HBD := Lib.hid hb
          have HBK := Lib.hid hbk
          clear hb hbk hm6 HRD HBK5 HWD5 HB5 HM5
          cases b with
          | false =>
            go_wp2_with fail
            go_ret
            refine add_err (addR_bad HUE.out ?_) (by decide) (HZ.out _ HM6.out)
            rcases HBD.out with ⟨h, -⟩ | ⟨-, h⟩
            · cases h
            · rw [HLT2.out, h]
          | true =>
            have HPR : Hid (lineT u = .inst x tgt) := Lib.hid (by
              rcases HBD.out with ⟨-, h⟩ | ⟨h, -⟩
              · rw [HLT2.out, h]
              · cases h)
            have HT6 := Lib.hid (HT.out.next HM6.out (fun k h => h.elim))
            obtain ⟨lv, hb1, hb2, hb3⟩ := HT6.out.row
            obtain ⟨ra, rc, rfl⟩ : ∃ ra rc, lv = .slice ra t.l.length rc := by
              rcases hb2.2 with ⟨hv, h0⟩ | ⟨g, cap, cur, hv, _⟩
              · exact ⟨_, _, by rw [hv, h0]⟩
              · exact ⟨_, _, hv⟩
            have hm2 : Mods None w6 ((w6.alloc (.cells (lineCells x tgt an) 74)).drew) := ((Mods.refl _ _).alloc _).drew
            have HOA := Lib.hid (hm2.ownsRow hb2 (fun k hk f => f))
            have HTB := Lib.hid (And.intro hb1 hb3)
            have c0 := hb1.cell (i := 0) rfl
            have f0 := hb1.free 0
            have hlt := hb1.lt
            have d0 := HBK.out.cell (i := 0) rfl
            have d1 := HBK.out.cell (i := 1) rfl
            have d2 := HBK.out.cell (i := 2) rfl
            have d3 := HBK.out.cell (i := 3) rfl
            have d4 := HBK.out.cell (i := 4) rfl
            have d5 := HBK.out.cell (i := 5) rfl
            have d6 := HBK.out.cell (i := 6) rfl
            have hnew := Lib.hid (line_new w6 x tgt an)
            have hone := Lib.hid (line_one x tgt an)
            obtain ⟨xo, xd, xa, xb, xn⟩ := x
            unfold lineCells str at *
            simp only at *
            clear hb1 hb2 hb3 hm2
            go_upto_region 23 with (fail)
            go_region_law (refine step_append_at rfl (.tmp 78) (.tmp 80) 64 rfl 0 74 i0 _ 7 64 Tryz.underlying64 HI.out.1 HI.out.2.1 HI.out.2.2.1 HI.out.2.2.2 rfl (by decide) (.slice ra t.l.length rc) t.l.length (flatL t.l) (by simp [Act.eval, Act.put]) HOA.out ⟨w6.heap.size, 0, none⟩ 1 1 [.int .i64 xo, .int .i64 xd, .int .i64 xa, .int .i64 xb, .int .i64 xn, .string ⟨tgt.toArray⟩, .int .i64 an] (by simp [Act.eval, Act.put]) rfl hnew.out hone.out (by have := HN.out; unfold maxLen; omega) (by have := HN.out; omega) (Nat.zero_le _) ?_; intro v' w7 hown hgrow hloc; have HOW := Lib.hid hown; have HGR := Lib.hid (And.intro hgrow hloc); obtain ⟨c70, z70, l70⟩ := text_cell HTB.out.1 HTB.out.2 hgrow; clear hown hgrow hloc; obtain ⟨qa, qc, rfl⟩ := row_form HOW.out)
            all_goals
              go_wp2_with fail
              go_ret
              have hg := HT6.out.grow (x := ⟨xo, xd, xa, xb, xn⟩) (tgt := tgt) (an := an) HTB.out.1 HTB.out.2 HGR.out.1 HGR.out.2 HOW.out
              exact add_ok (addR_inst HUE.out HPR.out) hg.1 ((HZ.out _ HM6.out).trans hg.2)
end Go.Proofs.YtodgkbcgdbhpeaaGreatDoor.AsmP

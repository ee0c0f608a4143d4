/- How much an expression holds together. Conditions: that the levels lie as the program lays them. Expressions are written. Conditions: what is read of the package's variables lies. Calls are written; expressions, all. Conditions: what is read of the package's variables lies. -/
import Derived.Test.YtdgedlhefjmcpaaGreatDoorTreeP
import Derived.Test.YtdgedlhefjmcpaaGreatDoorTreeMem
import Derived.Laws.PanicsMore
import Derived.Deep.MidRow
import Derived.Test.YtdgedlhefjmcpaaGreatDoorShelf
import Derived.Deep.RegionHeld3
import Derived.Test.YtdgedlhefjmcpaaGreatDoorTreeRd
namespace Go.Proofs.YtdgedlhefjmcpaaGreatDoor.TreeP
open Go.RowKit Go.Proofs.YtdgedlhefjmcpaaGreatDoor.Wo
set_option linter.unusedVariables false
set_option linter.unusedSimpArgs false
theorem und6 : Tryz.prog.underlying 226 = some (.array 6 37) := by kernel_rfl
/-- The code of an expression, and its mark. -/
def codeB : Ex → Int
  | .num .. => 1
  | .var .. => 2
  | .bin .. => 3
  | .un .. => 4
  | .call .. => 5
  | .new .. => 6
  | .len .. => 7
  | .item .. => 8
  | .input .. => 9
theorem ExAt.code {W : World} {S : Nat → Prop} {e : Ex} {v : Value} (h : ExAt W S e v) : ∃ g, v = .pointer (some ⟨g, 0, none⟩) ∧ W.cell? ⟨g, 0, none⟩ = some (.int .i64 (codeB e)) := by
  have key : ∀ c a n s op l r x, Node W S v (cells8 c a n s op l r x) → ∃ g, v = .pointer (some ⟨g, 0, none⟩) ∧ W.cell? ⟨g, 0, none⟩ = some (.int .i64 c) := fun c a n s op l r x h => by
    obtain ⟨g, h1, _, h3⟩ := h
    exact ⟨g, h1, h3.cell (i := 0) rfl⟩
  cases e <;> simp only [ExAt] at h
  case num => exact key _ _ _ _ _ _ _ _ h
  case var => exact key _ _ _ _ _ _ _ _ h
  case bin => obtain ⟨x, y, h, _⟩ := h; exact key _ _ _ _ _ _ _ _ h
  case un => obtain ⟨x, h, _⟩ := h; exact key _ _ _ _ _ _ _ _ h
  case call => obtain ⟨x, y, h, _⟩ := h; exact key _ _ _ _ _ _ _ _ h
  case new => obtain ⟨x, h, _⟩ := h; exact key _ _ _ _ _ _ _ _ h
  case len => obtain ⟨x, h, _⟩ := h; exact key _ _ _ _ _ _ _ _ h
  case item => obtain ⟨x, y, h, _⟩ := h; exact key _ _ _ _ _ _ _ _ h
  case input => exact key _ _ _ _ _ _ _ _ h
theorem level_other {W : World} {S : Nat → Prop} {e : Ex} {v : Value} (h : ExAt W S e v) (hc : codeB e ≠ 3) :
    Calls Tryz.prog 121 #[v] W fun r w => r = .returned (.int .i64 6) ∧ W = w := by
  obtain ⟨g, rfl, hg⟩ := h.code
  obtain ⟨c, hcc⟩ : ∃ c, c = codeB e := ⟨_, rfl⟩
  rw [← hcc] at hg hc
  clear h hcc
  go_enter Tryz.func121, Tryz.ntmps121
  go_wp2
  go_ret
  exact ⟨rfl, rfl⟩
theorem levels_cs {W : World} {n : Nat} (h : Levels W n) : ∃ cs : List Value, cs.length = 6 ∧ W.rangeAt 4 0 cs ∧ (∀ v ∈ cs, ∃ p n c, v = Value.slice p n c) ∧ ∀ (i : Nat) (l : List (List UInt8)), levelList[i]? = some l → ∃ p o c, cs[i]? = some (.slice (some ⟨p, o, none⟩) l.length c) ∧ l.length ≤ c ∧ c ≤ 100000 ∧ (∀ (j : Nat) (m : List UInt8), l[j]? = some m → W.cell? ⟨p, o + j, none⟩ = some (str m)) := by
  obtain ⟨p0, o0, c0, a0, b0, d0, _, e0⟩ := h.2 0 _ rfl
  obtain ⟨p1, o1, c1, a1, b1, d1, _, e1⟩ := h.2 1 _ rfl
  obtain ⟨p2, o2, c2, a2, b2, d2, _, e2⟩ := h.2 2 _ rfl
  obtain ⟨p3, o3, c3, a3, b3, d3, _, e3⟩ := h.2 3 _ rfl
  obtain ⟨p4, o4, c4, a4, b4, d4, _, e4⟩ := h.2 4 _ rfl
  obtain ⟨p5, o5, c5, a5, b5, d5, _, e5⟩ := h.2 5 _ rfl
  refine ⟨[.slice (some ⟨p0, o0, none⟩) 1 c0, .slice (some ⟨p1, o1, none⟩) 1 c1, .slice (some ⟨p2, o2, none⟩) 2 c2, .slice (some ⟨p3, o3, none⟩) 4 c3, .slice (some ⟨p4, o4, none⟩) 2 c4, .slice (some ⟨p5, o5, none⟩) 3 c5], rfl, ?_, ?_, ?_⟩
  rotate_left
  · intro v hv
    simp only [List.mem_cons, List.not_mem_nil, or_false] at hv
    rcases hv with rfl | rfl | rfl | rfl | rfl | rfl <;> exact ⟨_, _, _, rfl⟩
  · intro i l hl
    have hi : i < 6 := (List.getElem?_eq_some_iff.1 hl).1
    obtain rfl | rfl | rfl | rfl | rfl | rfl : i = 0 ∨ i = 1 ∨ i = 2 ∨ i = 3 ∨ i = 4 ∨ i = 5 := by omega
    · cases hl; exact ⟨p0, o0, c0, rfl, b0, d0, e0⟩
    · cases hl; exact ⟨p1, o1, c1, rfl, b1, d1, e1⟩
    · cases hl; exact ⟨p2, o2, c2, rfl, b2, d2, e2⟩
    · cases hl; exact ⟨p3, o3, c3, rfl, b3, d3, e3⟩
    · cases hl; exact ⟨p4, o4, c4, rfl, b4, d4, e4⟩
    · cases hl; exact ⟨p5, o5, c5, rfl, b5, d5, e5⟩
  · intro j v hj
    have hi : j < 6 := (List.getElem?_eq_some_iff.1 hj).1
    obtain rfl | rfl | rfl | rfl | rfl | rfl : j = 0 ∨ j = 1 ∨ j = 2 ∨ j = 3 ∨ j = 4 ∨ j = 5 := by omega
    · cases hj; exact a0
    · cases hj; exact a1
    · cases hj; exact a2
    · cases hj; exact a3
    · cases hj; exact a4
    · cases hj; exact a5
/-- One of six slices. -/
theorem six_idx {cs : List Value} (h6 : cs.length = 6) {i : Nat} {p : Option Addr} {n c : Nat} (h : cs[i]? = some (.slice p n c)) (hall : ∀ v ∈ cs, ∃ p n c, v = Value.slice p n c) (W : World) : Sem.run Tryz.prog (Instr.index 226 (.agg cs.toArray) (.int .i64 (i : Int))) W = .ok (.slice p n c) W := by
  have hi : i < 6 := by rw [← h6]; exact (List.getElem?_eq_some_iff.1 h).1
  match cs, h6 with
  | [x0, x1, x2, x3, x4, x5], _ =>
    obtain ⟨p0, n0, c0, rfl⟩ := hall x0 (by simp)
    obtain ⟨p1, n1, c1, rfl⟩ := hall x1 (by simp)
    obtain ⟨p2, n2, c2, rfl⟩ := hall x2 (by simp)
    obtain ⟨p3, n3, c3, rfl⟩ := hall x3 (by simp)
    obtain ⟨p4, n4, c4, rfl⟩ := hall x4 (by simp)
    obtain ⟨p5, n5, c5, rfl⟩ := hall x5 (by simp)
    obtain rfl | rfl | rfl | rfl | rfl | rfl : i = 0 ∨ i = 1 ∨ i = 2 ∨ i = 3 ∨ i = 4 ∨ i = 5 := by omega
    all_goals
      cases h
      simp [Instr.index, run_underlying und6, asIntOf, go_sem]
set_option maxRecDepth 100000 in
set_option maxHeartbeats 1600000 in
theorem level_bin {W : World} {n g : Nat} {a : Int} {op : List UInt8} (hL : Levels W n) (hc : W.cell? ⟨g, 0, none⟩ = some (.int .i64 3)) (ho : W.cell? ⟨g, 4, none⟩ = some (.string ⟨op.toArray⟩)) :
    Calls Tryz.prog 121 #[.pointer (some ⟨g, 0, none⟩)] W fun r w => r = .returned (.int .i64 (lvlFrom levelList 0 op : Nat)) ∧ W = w := by
  obtain ⟨cs, h6, hrg, hall, hcs⟩ := levels_cs hL
  have HRG := Lib.hid hrg
  have h6' : (Tryz.prog.info? 226).map (·.size) = some cs.length := by rw [h6]; kernel_rfl
  have H6 := Lib.hid h6'
  have HI := Lib.hid (fun (i : Nat) (p : Option Addr) (n c : Nat) (h : cs[i]? = some (.slice p n c)) => six_idx h6 h hall W)
  have HC := Lib.hid hcs
  obtain ⟨ag, hag⟩ : ∃ ag, ag = Value.agg cs.toArray := ⟨_, rfl⟩
  rw [← hag] at HI
  have HAG := Lib.hid hag
  clear hag h6 hrg hall hcs h6' hL
  go_enter Tryz.func121, Tryz.ntmps121
  go_wp2_with (refine wpList_load_mid rfl 226 (.global 4) rfl 4 0 rfl cs _ HRG.out und6 rfl H6.out ?_; rw [← HAG.out])
  go_loopw [13] (fun v wr => ∃ i : Nat, i ≤ 6 ∧ v = .int .i64 i ∧ Hid (lvlFrom (levelList.drop i) i op = lvlFrom levelList 0 op) ∧ Hid (W = wr)) (fun v _ => (6 - intOf v).toNat)
  case atStart => exact ⟨0, by omega, rfl, Lib.hid (by first | trivial | rfl), Lib.hid (by first | trivial | rfl)⟩
  case round =>
    obtain ⟨i, hi, rfl, heq, hw⟩ := hrel
    obtain rfl := hw.out
    clear hw
    by_cases hlt : i < 6
    · obtain ⟨l, hl⟩ : ∃ l, levelList[i]? = some l := ⟨levelList[i], List.getElem?_eq_getElem (by exact hlt)⟩
      have hd : levelList.drop i = l :: levelList.drop (i + 1) := by
        have := List.drop_eq_getElem_cons (l := levelList) (i := i) (by exact hlt)
        rw [this]
        congr 1
        exact (List.getElem?_eq_some_iff.1 hl).2
      obtain ⟨p, o, c, hci, hlc, hc1, hms⟩ := HC.out i l hl
      have hix := HI.out i _ _ _ hci
      have HMS := Lib.hid hms
      have heq2 := heq.out
      rw [hd] at heq2
      have HEQ := Lib.hid heq2
      clear hl hd hci hms heq heq2
      go_wp2_with fail
      go_loopw [19] (fun v wr => ∃ j : Nat, j ≤ l.length ∧ v = .int .i64 j ∧ Hid ((l.drop j).contains op = l.contains op) ∧ Hid (W = wr)) (fun v _ => (l.length - intOf v).toNat)
      case atStart => exact ⟨0, by omega, rfl, Lib.hid (by first | trivial | rfl), Lib.hid (by first | trivial | rfl)⟩
      case round =>
        obtain ⟨j, hj, rfl, heq, hw⟩ := hrel
        obtain rfl := hw.out
        clear hw
        by_cases hjl : j < l.length
        · obtain ⟨m, hm⟩ : ∃ m, m = l[j] := ⟨_, rfl⟩
          have hd : l.drop j = m :: l.drop (j + 1) := by rw [hm]; exact List.drop_eq_getElem_cons hjl
          have hcm := HMS.out j m (by rw [hm]; exact List.getElem?_eq_getElem hjl)
          unfold str at hcm
          have heq2 := heq.out
          rw [hd] at heq2
          clear hm hd heq
          cases hq : (m == op)
          · have hnx : Hid ((l.drop (j + 1)).contains op = l.contains op) := Lib.hid (by
              rw [← heq2, List.contains_cons, show (op == m) = false by rw [Bool.eq_false_iff] at hq ⊢; intro h; exact hq (by rw [beq_iff_eq] at h ⊢; exact h.symm)]
              simp)
            clear heq2
            go_wp2_with fail
            exact ⟨⟨j + 1, by omega, by go_num, hnx, Lib.hid (by first | trivial | rfl)⟩, by simp [intOf]; omega⟩
          · have hfin : Hid (lvlFrom levelList 0 op = i) := Lib.hid (by
              rw [← HEQ.out]
              have : l.contains op = true := by
                rw [← heq2, List.contains_cons, show (op == m) = true by rw [beq_iff_eq] at hq ⊢; exact hq.symm]
                rfl
              simp only [lvlFrom, this, if_true])
            clear heq2
            go_wp2
            go_ret
            rw [hfin.out]
            exact ⟨rfl, rfl⟩
        · obtain rfl : j = l.length := by omega
          have hnx : Hid (lvlFrom (levelList.drop (i + 1)) (i + 1) op = lvlFrom levelList 0 op) := Lib.hid (by
            rw [← HEQ.out]
            have : l.contains op = false := by rw [← heq.out, List.drop_length]; rfl
            simp only [lvlFrom, this, Bool.false_eq_true, if_false])
          clear heq
          go_wp2_with fail
          exact ⟨⟨i + 1, by omega, by go_num, hnx, Lib.hid (by first | trivial | rfl)⟩, by simp [intOf]; omega⟩
    · obtain rfl : i = 6 := by omega
      have hfin : Hid (lvlFrom levelList 0 op = 0) := Lib.hid (by
        rw [← heq.out]; rfl)
      clear heq
      go_wp2
      go_ret
      rw [hfin.out]
      exact ⟨rfl, rfl⟩
theorem level_any {W : World} {S : Nat → Prop} {n : Nat} {e : Ex} {v : Value} (hL : Levels W n) (h : ExAt W S e v) :
    Calls Tryz.prog 121 #[v] W fun r w => r = .returned (.int .i64 (levelB e : Nat)) ∧ W = w := by
  by_cases hc : codeB e = 3
  · cases e <;> simp only [codeB] at hc
    all_goals first
      | (exact absurd hc (by decide))
      | skip
    simp only [ExAt] at h
    obtain ⟨x, y, ⟨g, rfl, _, hb⟩, _⟩ := h
    exact level_bin (a := 0) hL (hb.cell (i := 0) rfl) (hb.cell (i := 4) rfl)
  · have h2 := level_other h hc
    have e6 : levelB e = 6 := by cases e <;> first | rfl | exact absurd rfl hc
    rw [e6]
    exact h2
end Go.Proofs.YtdgedlhefjmcpaaGreatDoor.TreeP
namespace Go.Proofs.YtdgedlhefjmcpaaGreatDoor.TreeP
open Go.RowKit Go.Proofs.YtdgedlhefjmcpaaGreatDoor.Wo
set_option linter.unusedVariables false
set_option linter.unusedSimpArgs false
def PowTab (W : World) : Prop := Lib.TabIs Tryz.prog W "internal/strconv.uint64pow10" .u64 Lib.pow10Tab
theorem tab_next {P : Program} {name : String} {k : IntKind} {zs : List Int} {W W' : World} (h : Lib.TabIs P W name k zs) (hm : Mods None W W') : Lib.TabIs P W' name k zs := by
  unfold Lib.TabIs World.var? at *
  cases hg : P.globalNamed name with
  | none => simp [hg] at h
  | some g =>
    simp only [hg, Option.bind_some] at h ⊢
    cases hb : W.heap[g]? with
    | none => rw [hb] at h; simp at h
    | some o =>
      rw [hm.blockOf hb (fun f => f)]
      rw [hb] at h
      exact h
/-- What writing reads. -/
structure Prn (W : World) : Prop where
  lev : ∃ n, Levels W n
  pow : PowTab W
theorem Prn.next {W W' : World} (h : Prn W) (hm : Mods None W W') : Prn W' := by
  obtain ⟨n, hn⟩ := h.lev
  exact ⟨⟨n, hn.far hm (fun _ f => f.elim)⟩, tab_next h.pow hm⟩
theorem grow_mods (w : World) (k : Nat) (os : Array Obj) : Mods None w (Go.«Sort».grow (w.drewN k) os) := by
  refine ⟨rfl, rfl, ?_, fun i hi _ => ?_⟩
  · simp [Go.«Sort».grow, World.drewN]
  · simp [Go.«Sort».grow, World.drewN, Array.getElem?_append, hi]
def TextC (e : Ex) : Prop := ∀ (v : Value) (W : World), Prn W → NumE e → (textB e).length ≤ 1000000000 → ExAt W None e v →
  Calls Tryz.prog 87 #[v] W fun r w => r = .returned (.string ⟨(textB e).toArray⟩) ∧ Mods None W w
theorem text_num (a n : Int) : TextC (.num a n) := by
  intro v W hP hn hl h
  simp only [ExAt, NumE] at h hn
  obtain ⟨g, rfl, _, hb⟩ := h
  have c0 : W.cell? ⟨g, 0, none⟩ = some (.int .i64 1) := hb.cell (i := 0) rfl
  have c2 : W.cell? ⟨g, 2, none⟩ = some (.int .i64 n) := hb.cell (i := 2) rfl
  have HC := Lib.hid (Tryz.strconv_FormatInt_10 n (by omega) (by omega) W hP.pow)
  clear hP hb hl
  go_enter Tryz.func87, Tryz.ntmps87
  go_wp2_with (go_at_call 120; refine HC.out.mono ?_; rintro e w ⟨rfl, k, os, rfl⟩)
  go_ret
  exact ⟨by simp only [textB]; rfl, grow_mods W k os⟩
theorem text_var (a : Int) (s : List UInt8) : TextC (.var a s) := by
  intro v W hP hn hl h
  simp only [ExAt] at h
  obtain ⟨g, rfl, _, hb⟩ := h
  have c0 : W.cell? ⟨g, 0, none⟩ = some (.int .i64 2) := hb.cell (i := 0) rfl
  have c3 : W.cell? ⟨g, 3, none⟩ = some (.string ⟨s.toArray⟩) := hb.cell (i := 3) rfl
  clear hP hb hl
  go_enter Tryz.func87, Tryz.ntmps87
  go_wp2
  go_ret
  exact ⟨by simp only [textB]; rfl, Mods.refl _ _⟩
theorem text_input (a : Int) : TextC (.input a) := by
  intro v W hP hn hl h
  simp only [ExAt] at h
  obtain ⟨g, rfl, _, hb⟩ := h
  have c0 : W.cell? ⟨g, 0, none⟩ = some (.int .i64 9) := hb.cell (i := 0) rfl
  clear hP hb hl
  go_enter Tryz.func87, Tryz.ntmps87
  go_wp2
  go_ret
  exact ⟨by simp only [textB]; rfl, Mods.refl _ _⟩
theorem ba_append (a b : List UInt8) : (⟨a.toArray⟩ : ByteArray) ++ ⟨b.toArray⟩ = ⟨(a ++ b).toArray⟩ := by
  apply ByteArray.ext
  simp
theorem text_new (a : Int) {x : Ex} (hx : TextC x) : TextC (.new a x) := by
  intro v W hP hn hl h
  simp only [ExAt, NumE] at h hn
  obtain ⟨y, ⟨g, rfl, _, hb⟩, hy⟩ := h
  obtain ⟨gy, rfl⟩ := hy.ptr
  have c0 : W.cell? ⟨g, 0, none⟩ = some (.int .i64 6) := hb.cell (i := 0) rfl
  have c5 : W.cell? ⟨g, 5, none⟩ = some (.pointer (some ⟨gy, 0, none⟩)) := hb.cell (i := 5) rfl
  have hlx : (textB x).length ≤ 1000000000 := by simp only [textB, List.length_append] at hl; omega
  have HC := Lib.hid (hx _ W hP hn hlx hy)
  clear hP hb hl hy
  go_enter Tryz.func87, Tryz.ntmps87
  go_wp2_with (go_at_call 87; refine HC.out.mono ?_; rintro e w ⟨rfl, hm⟩)
  go_ret
  refine ⟨congrArg Ending.returned (congrArg Value.string ?_), hm⟩
  simp only [textB, ba_append]
theorem text_len (a : Int) {x : Ex} (hx : TextC x) : TextC (.len a x) := by
  intro v W hP hn hl h
  simp only [ExAt, NumE] at h hn
  obtain ⟨y, ⟨g, rfl, _, hb⟩, hy⟩ := h
  obtain ⟨gy, rfl⟩ := hy.ptr
  have c0 : W.cell? ⟨g, 0, none⟩ = some (.int .i64 7) := hb.cell (i := 0) rfl
  have c5 : W.cell? ⟨g, 5, none⟩ = some (.pointer (some ⟨gy, 0, none⟩)) := hb.cell (i := 5) rfl
  have hlx : (textB x).length ≤ 1000000000 := by simp only [textB, List.length_append] at hl; omega
  have HC := Lib.hid (hx _ W hP hn hlx hy)
  clear hP hb hl hy
  go_enter Tryz.func87, Tryz.ntmps87
  go_wp2_with (go_at_call 87; refine HC.out.mono ?_; rintro e w ⟨rfl, hm⟩)
  go_ret
  refine ⟨congrArg Ending.returned (congrArg Value.string ?_), hm⟩
  simp only [textB, ba_append]
def AtC (e : Ex) : Prop := ∀ (v : Value) (least : Nat) (W : World), Prn W → NumE e → least ≤ 6 → (textB e).length ≤ 1000000000 → ExAt W None e v →
  Calls Tryz.prog 122 #[v, .int .i64 least] W fun r w => r = .returned (.string ⟨(paren (levelB e) least (textB e)).toArray⟩) ∧ Mods None W w
theorem lvlFrom_le : (L : List (List (List UInt8))) → (i : Nat) → (op : List UInt8) → lvlFrom L i op = 0 ∨ lvlFrom L i op < i + L.length
  | [], i, op => Or.inl rfl
  | l :: r, i, op => by
    simp only [lvlFrom]
    split
    · exact Or.inr (by simp)
    · rcases lvlFrom_le r (i + 1) op with h | h
      · exact Or.inl h
      · exact Or.inr (by simp only [List.length_cons]; omega)
theorem levelB_le (e : Ex) : levelB e ≤ 6 := by
  cases e <;> simp only [levelB] <;> try exact Nat.le_refl _
  rename_i op _ _
  have := lvlFrom_le levelList 0 op
  have h6 : levelList.length = 6 := rfl
  omega
theorem at_of {e : Ex} (hx : TextC e) : AtC e := by
  intro v least W hP hn hl6 hl h
  obtain ⟨g, rfl⟩ := h.ptr
  have HC := Lib.hid (fun (w : World) (hm : Mods None W w) => hx _ w (hP.next hm) hn hl (h.mods hm))
  obtain ⟨n, hL⟩ := hP.lev
  have HV := Lib.hid (fun (w : World) (hm : Mods None W w) => level_any (n := n) (hL.far hm (fun _ f => f.elim)) (h.mods hm))
  have hlv := levelB_le e
  obtain ⟨lv, hlve⟩ : ∃ lv, lv = levelB e := ⟨_, rfl⟩
  obtain ⟨t, ht⟩ : ∃ t, t = textB e := ⟨_, rfl⟩
  rw [← hlve] at HV hlv ⊢
  rw [← ht] at HC hl ⊢
  clear hP h hL hn hlve ht
  by_cases hle : least ≤ lv
  · have hlei : (least : Int) ≤ (lv : Int) := by omega
    have hp : Hid (paren lv least t = t) := Lib.hid (by unfold paren; rw [if_pos hle])
    clear hle
    go_enter Tryz.func122, Tryz.ntmps122
    go_wp2_with (first | (go_at_call 121; refine (HV.out _ hm).mono ?_; rintro e w ⟨rfl, rfl⟩) | (go_at_call 87; refine (HC.out _ (Mods.refl _ _)).mono ?_; rintro e w ⟨rfl, hm⟩))
    go_ret
    rw [hp.out]
    exact ⟨rfl, hm⟩
  · have hlei : ¬ (least : Int) ≤ (lv : Int) := by omega
    have hp : Hid (paren lv least t = [40] ++ t ++ [41]) := Lib.hid (by unfold paren; rw [if_neg hle])
    clear hle
    go_enter Tryz.func122, Tryz.ntmps122
    go_wp2_with fail
    go_at_call 87
    refine (HC.out _ (Mods.refl _ _)).mono ?_
    rintro e w ⟨rfl, hm⟩
    go_wp2_with fail
    go_at_call 121
    refine (HV.out _ hm).mono ?_
    rintro e w2 ⟨rfl, rfl⟩
    go_wp2_with fail
    go_at_call 87
    refine (HC.out _ hm).mono ?_
    rintro e w3 ⟨rfl, hm3⟩
    go_wp2_with fail
    go_ret
    refine ⟨congrArg Ending.returned (congrArg Value.string ?_), hm.trans hm3⟩
    rw [hp.out]
    try simp only [ba_append]
theorem text_un (a : Int) (op : List UInt8) {x : Ex} (hx : AtC x) : TextC (.un a op x) := by
  intro v W hP hn hl h
  simp only [ExAt, NumE] at h hn
  obtain ⟨y, ⟨g, rfl, _, hb⟩, hy⟩ := h
  obtain ⟨gy, rfl⟩ := hy.ptr
  have c0 : W.cell? ⟨g, 0, none⟩ = some (.int .i64 4) := hb.cell (i := 0) rfl
  have c4 : W.cell? ⟨g, 4, none⟩ = some (.string ⟨op.toArray⟩) := hb.cell (i := 4) rfl
  have c5 : W.cell? ⟨g, 5, none⟩ = some (.pointer (some ⟨gy, 0, none⟩)) := hb.cell (i := 5) rfl
  simp only [textB, List.length_append] at hl
  have hlx : (textB x).length ≤ 1000000000 := by
    unfold paren at hl
    split at hl
    · omega
    · simp only [List.length_append] at hl; omega
  have HC := Lib.hid (fun (w : World) (hm : Mods None W w) => hx _ 6 w (hP.next hm) hn (by omega) hlx (hy.mods hm))
  simp only [textB]
  obtain ⟨t, ht⟩ : ∃ t, t = paren (levelB x) 6 (textB x) := ⟨_, rfl⟩
  rw [← ht] at HC hl ⊢
  have hlt : t.length ≤ 1000000000 := by omega
  have hlo : op.length ≤ 1000000000 := by omega
  have hq0 : ¬ 9223372036854775807 < op.length + t.length := by omega
  clear hP hb hy ht hlx hn hl
  go_enter Tryz.func87, Tryz.ntmps87
  go_wp2_with fail
  go_region_held3 (fun w' => Hid (Mods None W w') ∧ w'.cell? ⟨g, 4, none⟩ = some (.string ⟨op.toArray⟩) ∧ w'.cell? ⟨g, 5, none⟩ = some (.pointer (some ⟨gy, 0, none⟩)))
    (first
      | exact ⟨Lib.hid (Mods.refl _ _).drew, c4, c5⟩
      | assumption
      | (go_split_ands; exact ⟨Lib.hid (Mods.trans (Hid.out ‹_›) hm), hm.cellOf ‹_› (fun f => f), hm.cellOf ‹_› (fun f => f)⟩))
    ((first
      | (go_at_call 122; go_split_ands; refine (HC.out _ (Hid.out ‹Hid (Mods None W _)›)).mono ?_; rintro e w' ⟨rfl, hm⟩)))
  all_goals
    go_split_ands
    have HM4 : Hid (Mods None W w') := ‹Hid (Mods None W w')›
    clear hm
    go_wp2_with fail
    go_ret
    refine ⟨congrArg Ending.returned (congrArg Value.string ?_), HM4.out⟩
    first
      | (simp only [ba_append]; done)
      | (simp [ba_append])
theorem paren_le {n least : Nat} {t : List UInt8} {k : Nat} (h : (paren n least t).length ≤ k) : t.length ≤ k := by
  unfold paren at h
  split at h
  · exact h
  · simp only [List.length_append] at h; omega
theorem text_bin (a : Int) (op : List UInt8) {l r : Ex} (hl0 : AtC l) (hr0 : AtC r) : TextC (.bin a op l r) := by
  intro v W hP hn hl h
  have hV := fun (n : Nat) (hL : Levels W n) => level_any hL h
  simp only [ExAt, NumE] at h hn
  obtain ⟨x, y, ⟨g, rfl, _, hb⟩, hx, hy⟩ := h
  obtain ⟨gx, rfl⟩ := hx.ptr
  obtain ⟨gy, rfl⟩ := hy.ptr
  have c0 : W.cell? ⟨g, 0, none⟩ = some (.int .i64 3) := hb.cell (i := 0) rfl
  have c4 : W.cell? ⟨g, 4, none⟩ = some (.string ⟨op.toArray⟩) := hb.cell (i := 4) rfl
  have c5 : W.cell? ⟨g, 5, none⟩ = some (.pointer (some ⟨gx, 0, none⟩)) := hb.cell (i := 5) rfl
  have c6 : W.cell? ⟨g, 6, none⟩ = some (.pointer (some ⟨gy, 0, none⟩)) := hb.cell (i := 6) rfl
  obtain ⟨n, hL⟩ := hP.lev
  have HV := Lib.hid (hV n hL)
  simp only [levelB] at HV
  simp only [textB] at hl ⊢
  obtain ⟨k, hk⟩ : ∃ k, k = lvlFrom levelList 0 op := ⟨_, rfl⟩
  have hk5 : k ≤ 5 := by
    have := lvlFrom_le levelList 0 op
    have h6 : levelList.length = 6 := rfl
    omega
  rw [← hk] at HV hl ⊢
  simp only [List.length_append] at hl
  have h1 := paren_le (n := levelB l) (least := k) (t := textB l) (k := 1000000000) (by omega)
  have h2 := paren_le (n := levelB r) (least := k + 1) (t := textB r) (k := 1000000000) (by omega)
  have HL := Lib.hid (fun (w : World) (hm : Mods None W w) => hl0 _ k w (hP.next hm) hn.1 (by omega) h1 (hx.mods hm))
  have HRR := Lib.hid (fun (w : World) (hm : Mods None W w) => hr0 _ (k + 1) w (hP.next hm) hn.2 (by omega) h2 (hy.mods hm))
  obtain ⟨tl, htl⟩ : ∃ t, t = paren (levelB l) k (textB l) := ⟨_, rfl⟩
  obtain ⟨tr, htr⟩ : ∃ t, t = paren (levelB r) (k + 1) (textB r) := ⟨_, rfl⟩
  rw [← htl] at HL hl ⊢
  rw [← htr] at HRR hl ⊢
  have hlt : tl.length ≤ 1000000000 := by omega
  have hlr : tr.length ≤ 1000000000 := by omega
  have hlo : op.length ≤ 1000000000 := by omega
  have hq0 : ¬ 9223372036854775807 < tl.length + 1 := by omega
  have hq1 : ¬ 9223372036854775807 < tl.length + 1 + op.length := by omega
  have hq2 : ¬ 9223372036854775807 < tl.length + 1 + op.length + 1 := by omega
  have hq3 : ¬ 9223372036854775807 < tl.length + 1 + op.length + 1 + tr.length := by omega
  clear hl
  have hki : IntKind.i64.wrap ((k : Int) + 1) = ((k + 1 : Nat) : Int) := by rw [IntWalk.i64_in _ (by omega)]; omega
  clear hV hP hb hx hy htl htr h1 h2 hn hL hk
  go_enter Tryz.func87, Tryz.ntmps87
  go_wp2_with fail
  go_at_call 121
  refine HV.out.mono ?_
  rintro e w ⟨rfl, rfl⟩
  go_wp2_with fail
  go_region_held3 (fun w' => Hid (Mods None W w') ∧ w'.cell? ⟨g, 4, none⟩ = some (.string ⟨op.toArray⟩) ∧ w'.cell? ⟨g, 5, none⟩ = some (.pointer (some ⟨gx, 0, none⟩)) ∧ w'.cell? ⟨g, 6, none⟩ = some (.pointer (some ⟨gy, 0, none⟩)))
    (first
      | exact ⟨Lib.hid (Mods.refl _ _).drew, c4, c5, c6⟩
      | assumption
      | (go_split_ands; exact ⟨Lib.hid (Mods.trans (Hid.out ‹_›) hm), hm.cellOf ‹_› (fun f => f), hm.cellOf ‹_› (fun f => f), hm.cellOf ‹_› (fun f => f)⟩)
      | (go_split_ands; exact ⟨Lib.hid (Mods.trans (Hid.out ‹_›) hm2), hm2.cellOf ‹_› (fun f => f), hm2.cellOf ‹_› (fun f => f), hm2.cellOf ‹_› (fun f => f)⟩))
    ((first
      | (go_at_call_of 122 (Value.pointer (some ⟨gx, 0, none⟩)); go_split_ands; refine (HL.out _ (Hid.out ‹Hid (Mods None W _)›)).mono ?_; rintro e w' ⟨rfl, hm⟩)
      | (go_at_call_of 122 (Value.pointer (some ⟨gy, 0, none⟩)); go_split_ands; refine (HRR.out _ (Hid.out ‹Hid (Mods None W _)›)).mono ?_; rintro e w2 ⟨rfl, hm2⟩)))
  all_goals
    go_split_ands
    clear hm hm2
    go_wp2_with fail
    go_ret
    refine ⟨congrArg Ending.returned (congrArg Value.string ?_), Hid.out (by assumption)⟩
    first
      | (simp only [ba_append]; done)
      | (simp [ba_append])
theorem text_item_un (a : Int) {x i : Ex} (hu : isUn x = true) (hx0 : TextC x) (hi0 : TextC i) : TextC (.item a x i) := by
  intro v W hP hn hl h
  simp only [ExAt, NumE] at h hn
  obtain ⟨xv, yv, ⟨g, rfl, _, hb⟩, hx, hy⟩ := h
  obtain ⟨gx, rfl, hcx⟩ := hx.code
  obtain ⟨gy, rfl⟩ := hy.ptr
  have c0 : W.cell? ⟨g, 0, none⟩ = some (.int .i64 8) := hb.cell (i := 0) rfl
  have c5 : W.cell? ⟨g, 5, none⟩ = some (.pointer (some ⟨gx, 0, none⟩)) := hb.cell (i := 5) rfl
  have c6 : W.cell? ⟨g, 6, none⟩ = some (.pointer (some ⟨gy, 0, none⟩)) := hb.cell (i := 6) rfl
  simp only [textB, hu, ↓reduceIte] at hl ⊢
  simp only [List.length_append] at hl
  have hcx2 : codeB x = 4 := by cases x <;> first | rfl | (simp [isUn] at hu)
  rw [hcx2] at hcx
  have HL := Lib.hid (fun (w : World) (hm : Mods None W w) => hx0 _ w (hP.next hm) hn.1 (by omega) (hx.mods hm))
  have HRR := Lib.hid (fun (w : World) (hm : Mods None W w) => hi0 _ w (hP.next hm) hn.2 (by omega) (hy.mods hm))
  obtain ⟨tl, htl⟩ : ∃ t, t = textB x := ⟨_, rfl⟩
  obtain ⟨tr, htr⟩ : ∃ t, t = textB i := ⟨_, rfl⟩
  rw [← htl] at HL hl ⊢
  rw [← htr] at HRR hl ⊢
  have hlt : tl.length ≤ 1000000000 := by omega
  have hlr : tr.length ≤ 1000000000 := by omega
  have hq0 : ¬ 9223372036854775807 < 1 + tl.length := by omega
  have hq1 : ¬ 9223372036854775807 < 1 + tl.length + 2 := by omega
  have hq2 : ¬ 9223372036854775807 < 1 + tl.length + 2 + tr.length := by omega
  have hq3 : ¬ 9223372036854775807 < 1 + tl.length + 2 + tr.length + 1 := by omega
  clear hl hP hb hx hy htl htr hn hu hcx2
  go_enter Tryz.func87, Tryz.ntmps87
  go_wp2_with fail
  go_region_held3 (fun w' => Hid (Mods None W w') ∧ w'.cell? ⟨g, 5, none⟩ = some (.pointer (some ⟨gx, 0, none⟩)) ∧ w'.cell? ⟨g, 6, none⟩ = some (.pointer (some ⟨gy, 0, none⟩)))
    (first
      | exact ⟨Lib.hid (Mods.refl _ _).drew, c5, c6⟩
      | assumption
      | (go_split_ands; exact ⟨Lib.hid (Mods.trans (Hid.out ‹_›) hm), hm.cellOf ‹_› (fun f => f), hm.cellOf ‹_› (fun f => f)⟩)
      | (go_split_ands; exact ⟨Lib.hid (Mods.trans (Hid.out ‹_›) hm2), hm2.cellOf ‹_› (fun f => f), hm2.cellOf ‹_› (fun f => f)⟩))
    ((first
      | (go_at_call_of 87 (Value.pointer (some ⟨gx, 0, none⟩)); go_split_ands; refine (HL.out _ (Hid.out ‹Hid (Mods None W _)›)).mono ?_; rintro e w' ⟨rfl, hm⟩)
      | (go_at_call_of 87 (Value.pointer (some ⟨gy, 0, none⟩)); go_split_ands; refine (HRR.out _ (Hid.out ‹Hid (Mods None W _)›)).mono ?_; rintro e w2 ⟨rfl, hm2⟩)))
  all_goals
    go_split_ands
    clear hm hm2
    go_wp2_with fail
    go_ret
    refine ⟨congrArg Ending.returned (congrArg Value.string ?_), Hid.out (by assumption)⟩
    first
      | (simp only [ba_append]; done)
      | (simp [ba_append])
theorem text_item_at (a : Int) {x i : Ex} (hu : isUn x = false) (hx0 : AtC x) (hi0 : TextC i) : TextC (.item a x i) := by
  intro v W hP hn hl h
  simp only [ExAt, NumE] at h hn
  obtain ⟨xv, yv, ⟨g, rfl, _, hb⟩, hx, hy⟩ := h
  obtain ⟨gx, rfl, hcx⟩ := hx.code
  obtain ⟨gy, rfl⟩ := hy.ptr
  have c0 : W.cell? ⟨g, 0, none⟩ = some (.int .i64 8) := hb.cell (i := 0) rfl
  have c5 : W.cell? ⟨g, 5, none⟩ = some (.pointer (some ⟨gx, 0, none⟩)) := hb.cell (i := 5) rfl
  have c6 : W.cell? ⟨g, 6, none⟩ = some (.pointer (some ⟨gy, 0, none⟩)) := hb.cell (i := 6) rfl
  simp only [textB, hu, Bool.false_eq_true, ↓reduceIte] at hl ⊢
  simp only [List.length_append] at hl
  have hcx2 : codeB x ≠ 4 := by cases x <;> first | (simp [isUn] at hu; done) | (simp [codeB])
  have h1 := paren_le (n := levelB x) (least := 6) (t := textB x) (k := 1000000000) (by omega)
  have HL := Lib.hid (fun (w : World) (hm : Mods None W w) => hx0 _ 6 w (hP.next hm) hn.1 (by omega) h1 (hx.mods hm))
  have HRR := Lib.hid (fun (w : World) (hm : Mods None W w) => hi0 _ w (hP.next hm) hn.2 (by omega) (hy.mods hm))
  obtain ⟨cx, hcxe⟩ : ∃ c, c = codeB x := ⟨_, rfl⟩
  rw [← hcxe] at hcx hcx2
  clear hcxe
  obtain ⟨tl, htl⟩ : ∃ t, t = paren (levelB x) 6 (textB x) := ⟨_, rfl⟩
  obtain ⟨tr, htr⟩ : ∃ t, t = textB i := ⟨_, rfl⟩
  rw [← htl] at HL hl ⊢
  rw [← htr] at HRR hl ⊢
  have hlt : tl.length ≤ 1000000000 := by omega
  have hlr : tr.length ≤ 1000000000 := by omega
  have hq0 : ¬ 9223372036854775807 < tl.length + 1 := by omega
  have hq1 : ¬ 9223372036854775807 < tl.length + 1 + tr.length := by omega
  have hq2 : ¬ 9223372036854775807 < tl.length + 1 + tr.length + 1 := by omega
  clear hl hP hb hx hy htl htr hn hu h1
  go_enter Tryz.func87, Tryz.ntmps87
  go_wp2_with fail
  go_region_held3 (fun w' => Hid (Mods None W w') ∧ w'.cell? ⟨g, 5, none⟩ = some (.pointer (some ⟨gx, 0, none⟩)) ∧ w'.cell? ⟨g, 6, none⟩ = some (.pointer (some ⟨gy, 0, none⟩)))
    (first
      | exact ⟨Lib.hid (Mods.refl _ _).drew, c5, c6⟩
      | assumption
      | (go_split_ands; exact ⟨Lib.hid (Mods.trans (Hid.out ‹_›) hm), hm.cellOf ‹_› (fun f => f), hm.cellOf ‹_› (fun f => f)⟩)
      | (go_split_ands; exact ⟨Lib.hid (Mods.trans (Hid.out ‹_›) hm2), hm2.cellOf ‹_› (fun f => f), hm2.cellOf ‹_› (fun f => f)⟩))
    ((first
      | (go_at_call_of 122 (Value.pointer (some ⟨gx, 0, none⟩)); go_split_ands; refine (HL.out _ (Hid.out ‹Hid (Mods None W _)›)).mono ?_; rintro e w' ⟨rfl, hm⟩)
      | (go_at_call_of 87 (Value.pointer (some ⟨gy, 0, none⟩)); go_split_ands; refine (HRR.out _ (Hid.out ‹Hid (Mods None W _)›)).mono ?_; rintro e w2 ⟨rfl, hm2⟩)))
  all_goals
    go_split_ands
    clear hm hm2
    go_wp2_with fail
    go_ret
    refine ⟨congrArg Ending.returned (congrArg Value.string ?_), Hid.out (by assumption)⟩
    first
      | (simp only [ba_append]; done)
      | (simp [ba_append])
end Go.Proofs.YtdgedlhefjmcpaaGreatDoor.TreeP
namespace Go.Proofs.YtdgedlhefjmcpaaGreatDoor.TreeP
open Go.RowKit Go.Proofs.YtdgedlhefjmcpaaGreatDoor.Wo
set_option linter.unusedVariables false
set_option linter.unusedSimpArgs false
theorem textsB_len : (l : List Ex) → (textsB l).length = l.length
  | [] => rfl
  | e :: r => by simp only [textsB, List.length_cons, textsB_len r]
theorem textsB_at : (l : List Ex) → (i : Nat) → (e : Ex) → l[i]? = some e → (textsB l)[i]? = some (textB e)
  | [], i, e, h => by simp at h
  | a :: r, 0, e, h => by
    simp only [List.getElem?_cons_zero, Option.some.injEq] at h
    subst h
    rfl
  | a :: r, i + 1, e, h => by
    simp only [textsB, List.getElem?_cons_succ]
    exact textsB_at r i e (by simpa using h)
theorem ExsAt.at_ {W : World} {S : Nat → Prop} : {l : List Ex} → {vs : List Value} → ExsAt W S l vs → (i : Nat) → (e : Ex) → l[i]? = some e → ∃ v, vs[i]? = some v ∧ ExAt W S e v
  | [], vs, h, i, e, he => by simp at he
  | a :: r, vs, h, i, e, he => by
    simp only [ExsAt] at h
    obtain ⟨x, r2, rfl, h1, h2⟩ := h
    cases i with
    | zero => simp only [List.getElem?_cons_zero, Option.some.injEq] at he; subst he; exact ⟨x, rfl, h1⟩
    | succ i => exact ExsAt.at_ h2 i e (by simpa using he)
theorem NumsE.at_ : {l : List Ex} → NumsE l → (i : Nat) → (e : Ex) → l[i]? = some e → NumE e
  | [], h, i, e, he => by simp at he
  | a :: r, h, i, e, he => by
    simp only [NumsE] at h
    cases i with
    | zero => simp only [List.getElem?_cons_zero, Option.some.injEq] at he; subst he; exact h.1
    | succ i => exact NumsE.at_ h.2 i e (by simpa using he)
/-- Each is no longer than all, joined. -/
theorem join_ge (sep : List UInt8) : (l : List (List UInt8)) → (i : Nat) → (t : List UInt8) → l[i]? = some t → t.length ≤ (Lib.join l sep).length
  | [], i, t, h => by simp at h
  | [a], i, t, h => by
    cases i with
    | zero => simp only [List.getElem?_cons_zero, Option.some.injEq] at h; subst h; simp [Lib.join]
    | succ i => simp at h
  | a :: b :: r, i, t, h => by
    have hj : Lib.join (a :: b :: r) sep = a ++ sep ++ Lib.join (b :: r) sep := by simp [Lib.join, List.intercalate, List.intersperse]
    rw [hj]
    simp only [List.length_append]
    cases i with
    | zero => simp only [List.getElem?_cons_zero, Option.some.injEq] at h; subst h; omega
    | succ i =>
      have := join_ge sep (b :: r) i t (by simpa using h)
      omega
theorem join_many (sep : List UInt8) (hs : 1 ≤ sep.length) : (l : List (List UInt8)) → l.length ≤ (Lib.join l sep).length + 1
  | [] => by simp
  | [a] => by simp
  | a :: b :: r => by
    have hj : Lib.join (a :: b :: r) sep = a ++ sep ++ Lib.join (b :: r) sep := by simp [Lib.join, List.intercalate, List.intersperse]
    rw [hj]
    have := join_many sep hs (b :: r)
    simp only [List.length_append, List.length_cons] at this ⊢
    omega
theorem str_one (s : ByteArray) : ∀ u ∈ [Value.string s], u.oneCell' = true := by
  intro u hu
  simp only [List.mem_singleton] at hu
  subst hu
  rfl
theorem string_info : (Tryz.prog.info? 9).map (fun i => (i.zero, i.size, i.bytes)) = some (some (.string ⟨#[]⟩), 1, 16) := by kernel_rfl
/-- Where the loop stands: so many are written. -/
def TxAt (W : World) (L : List (List UInt8)) (lv iv : Value) (wr : World) : Prop :=
  ∃ i : Nat, i ≤ L.length ∧ iv = .int .i64 i ∧ wr.ownsRow W.heap.size 9 1 lv i ((L.take i).map str) ∧ Mods None W wr
theorem lex_form {W : World} {B : Nat} {e : TypeId} {size n : Nat} {v : Value} {vs : List Value} (h : W.ownsRow B e size v n vs) : ∃ oa oc, v = .slice oa n oc := by
  rcases h.2 with ⟨hv, h0⟩ | ⟨g, cap, cur, hv, _⟩
  · exact ⟨_, _, by rw [hv, h0]⟩
  · exact ⟨_, _, hv⟩
theorem join_any (L : List (List UInt8)) (lv : Value) {w0 : World} {B : Nat} (hown : w0.ownsRow B 9 1 lv L.length (L.map str)) (hn : L.length ≤ 2000000000) (hl : (Lib.join L [44, 32]).length ≤ 1000000000) (w : World) (hm : Mods None w0 w) :
    Calls Tryz.prog 54 #[lv, .string ⟨#[44, 32]⟩] w fun r w' => r = .returned (.string ⟨(Lib.join L [44, 32]).toArray⟩) ∧ Mods None w w' := by
  rcases hown.2 with ⟨rfl, h0⟩ | ⟨g, cap, cur, rfl, _, hg, h3, h4, _⟩
  · have hL0 : L = [] := List.eq_nil_of_length_eq_zero h0
    subst hL0
    exact (Tryz.strings_Join_none none 0 ⟨#[44, 32]⟩ w).mono fun e w' h => ⟨by rw [h.1]; rfl, by rw [h.2]; exact Mods.refl _ _⟩
  · have hcells := hown.cells (g := g) rfl
    have hlt := (hown.lt g rfl).2
    have hmap : (L.map (fun (t : List UInt8) => (⟨t.toArray⟩ : ByteArray))).map (·.data.toList) = L := by
      rw [List.map_map]
      conv => rhs; rw [← List.map_id L]
      apply List.map_congr_left
      intro t _
      simp
    have hj := Tryz.strings_Join g 0 cap (L.map fun (t : List UInt8) => (⟨t.toArray⟩ : ByteArray)) ⟨#[44, 32]⟩ w (by
      intro j x hx
      rw [List.getElem?_map, Option.map_eq_some_iff] at hx
      obtain ⟨t, ht, rfl⟩ := hx
      have := hcells j (str t) (by rw [List.getElem?_map, ht]; rfl)
      rw [Nat.zero_add]
      refine hm.cellOf ?_ (fun f => f)
      cases j with
      | zero => exact this
      | succ j => simpa [Addr.add, str] using this) (Nat.lt_of_lt_of_le hlt hm.size) (by rw [List.length_map]; omega) (by rw [List.length_map]; exact h3) (by rw [hmap]; exact Nat.le_trans hl (by decide))
    rw [List.length_map, hmap] at hj
    exact hj.mono fun e w' h => ⟨h.1, Mods.of_below h.2⟩
set_option maxRecDepth 100000 in
set_option maxHeartbeats 3200000 in
theorem text_call (a : Int) (f : List UInt8) {args : List Ex} (hA : ∀ e ∈ args, TextC e) : TextC (.call a f args) := by
  intro v W hP hn hl h
  simp only [ExAt, NumE] at h hn
  obtain ⟨xv, vs, ⟨g, rfl, _, hb⟩, hrow, hex⟩ := h
  have c0 : W.cell? ⟨g, 0, none⟩ = some (.int .i64 5) := hb.cell (i := 0) rfl
  have c3 : W.cell? ⟨g, 3, none⟩ = some (.string ⟨f.toArray⟩) := hb.cell (i := 3) rfl
  have c7 : W.cell? ⟨g, 7, none⟩ = some xv := hb.cell (i := 7) rfl
  simp only [textB] at hl ⊢
  simp only [List.length_append] at hl
  obtain ⟨L, hL⟩ : ∃ L, L = textsB args := ⟨_, rfl⟩
  have hLn : L.length = args.length := by rw [hL, textsB_len]
  have hlj : (Lib.join L [44, 32]).length ≤ 1000000000 := by rw [hL]; omega
  have hmany := join_many [44, 32] (by decide) L
  -- each argument
  have HC := Lib.hid (fun (i : Nat) (e : Ex) (he : args[i]? = some e) (w : World) (hm : Mods None W w) => by
    obtain ⟨y, hy, hye⟩ := hex.at_ i e he
    have hle := join_ge [44, 32] L i (textB e) (by rw [hL]; exact textsB_at args i e he)
    exact (⟨y, hy, hye.ptr, hA e (List.mem_of_getElem? he) y w (hP.next hm) (hn.at_ i e he) (by omega) (hye.mods hm)⟩ : ∃ y, vs[i]? = some y ∧ (∃ g, y = .pointer (some ⟨g, 0, none⟩)) ∧ Calls Tryz.prog 87 #[y] w fun r w' => r = .returned (.string ⟨(textB e).toArray⟩) ∧ Mods None w w'))
  obtain ⟨i0, hi, hz0, hz1, hz2⟩ := info_parts string_info
  have HI := Lib.hid (⟨hi, hz0, hz1, hz2⟩ : _ ∧ _ ∧ _ ∧ _)
  rw [← hL]
  have HAT := Lib.hid (fun (i : Nat) (hi : i < L.length) => by
    have hi2 : i < args.length := by omega
    exact (⟨args[i], List.getElem?_eq_getElem hi2, by rw [hL]; exact textsB_at args i _ (List.getElem?_eq_getElem hi2)⟩ : ∃ e, args[i]? = some e ∧ L[i]? = some (textB e)))
  have HR := Lib.hid hrow.1
  have HJ := Lib.hid (⟨hlj, hmany⟩ : _ ∧ _)
  have hlf : f.length ≤ 1000000000 := by omega
  clear hb hn hex hA hP hl hi hz0 hz1 hz2 hlj hmany
  obtain ⟨J, hJ⟩ : ∃ J, J = Lib.join L [44, 32] := ⟨_, rfl⟩
  have hJl : J.length ≤ 1000000000 := by rw [hJ]; exact HJ.out.1
  rw [← hJ]
  -- the joined ones, of any slice that holds them
  have HJN0 := Lib.hid (fun (lv : Value) (w0 : World) (hown : w0.ownsRow W.heap.size 9 1 lv L.length (L.map str)) (w : World) (hm : Mods None w0 w) => join_any L lv hown (by have := HJ.out.2; have := HJ.out.1; omega) HJ.out.1 w hm)
  rw [← hJ] at HJN0
  rcases Go.Joins.ownsRow_forms hrow.1 with ⟨rfl, h0⟩ | ⟨q, cap, rfl⟩
  · have hL0 : L = [] := List.eq_nil_of_length_eq_zero (by omega)
    have HJN := Lib.hid (HJN0.out (.slice none 0 0) W (by rw [hL0]; exact World.ownsRow_nil _ _ _ _))
    have HMS := Lib.hid (Mods.refl None W)
    clear HAT HC HR hL0 hL hLn hJ hrow
    go_enter Tryz.func87, Tryz.ntmps87
    go_wp2_with fail
    go_loopw [4, 68] (fun lv iv wr => lv = .slice none 0 0 ∧ iv = .int .i64 0 ∧ Hid (W = wr)) (fun _ _ _ => 0)
    case atStart => exact ⟨rfl, rfl, Lib.hid (by first | trivial | rfl)⟩
    case round =>
      obtain ⟨rfl, rfl, hw⟩ := hrel
      obtain rfl := hw.out
      clear hw
      go_wp2_with fail
      have hs0 : ¬ 9223372036854775807 < f.length + 1 := by omega
      have hs1 : ¬ 9223372036854775807 < f.length + 1 + J.length := by omega
      have hs2 : ¬ 9223372036854775807 < f.length + 1 + J.length + 1 := by omega
      go_region_held3 (fun w' => Hid (Mods None W w') ∧ w'.cell? ⟨g, 3, none⟩ = some (.string ⟨f.toArray⟩))
        (first
          | exact ⟨Lib.hid (Mods.refl _ _).drew, c3⟩
          | assumption
          | (go_split_ands; exact ⟨Lib.hid (Mods.trans (Hid.out ‹_›) hm9), hm9.cellOf ‹_› (fun f => f)⟩))
        ((first
          | (go_at_call 54; go_split_ands; refine (HJN.out _ (Hid.out ‹Hid (Mods None W _)›)).mono ?_; rintro e w9 ⟨rfl, hm9⟩)))
      all_goals
        go_split_ands
        clear hm9
        go_wp2_with fail
        go_ret
        refine ⟨congrArg Ending.returned (congrArg Value.string ?_), Mods.trans HMS.out (Hid.out (by assumption))⟩
        first
          | (simp only [ba_append]; done)
          | (simp [ba_append])
  · have hrowcells := hrow.1.cells (g := q) rfl
    have HRC := Lib.hid (fun (i : Nat) (y : Value) (hy : vs[i]? = some y) => by
      have := hrowcells i y hy
      exact (show W.cell? ⟨q, i, none⟩ = some y from by
        cases i with
        | zero => exact this
        | succ i => simpa [Addr.add] using this))
    have hcap : args.length ≤ cap ∧ cap ≤ 9223372036854775807 := by
      rcases hrow.1.2 with ⟨hv, _⟩ | ⟨g2, cap2, cur2, hv, _, _, h3, h4, _⟩
      · cases hv
      · cases hv; exact ⟨h3, by unfold maxLen at h4; omega⟩
    have hlen9 : L.length ≤ 1000000001 := by have := HJ.out.2; have := HJ.out.1; omega
    have HLN := Lib.hid hLn
    clear hrow hrowcells hL hJ HR hLn
    go_enter Tryz.func87, Tryz.ntmps87
    go_wp2_with fail
    go_loopw [4, 68] (fun lv iv wr => TxAt W L lv iv wr) (fun _ iv _ => (L.length - intOf iv).toNat)
    case atStart => exact ⟨0, Nat.zero_le _, rfl, World.ownsRow_nil _ _ _ _, Mods.refl _ _⟩
    case round =>
      obtain ⟨i, hi, rfl, hown, hm⟩ := hrel
      have HO := Lib.hid hown
      have HM := Lib.hid hm
      clear hown hm
      have hLA := HLN.out
      by_cases hlt : i < L.length
      · obtain ⟨e, he1, he2⟩ := HAT.out i hlt
        obtain ⟨y, hy, ⟨gy, rfl⟩, hcall⟩ := HC.out i e he1 wr HM.out
        have hcy := HM.out.cellOf (HRC.out i _ hy) (fun f => f)
        have HCL := Lib.hid hcall
        have HE2 := Lib.hid he2
        have hil : (i : Int) < (args.length : Int) := by omega
        clear hLA
        obtain ⟨oa, oc, rfl⟩ := lex_form HO.out
        clear he1 he2 hy hcall
        go_wp2_with fail
        go_at_call 87
        refine HCL.out.mono ?_
        rintro r w4 ⟨rfl, hm4⟩
        have HM4 := Lib.hid (HM.out.trans hm4)
        have HO4 := Lib.hid ((hm4.ownsRow HO.out (fun k hk f => f)).alloc (.cells #[.string ⟨(textB e).toArray⟩] 9))
        clear hm4
        go_wp2_with (at_builtin; refine wpList_append_own_at _ rfl _ _ 37 rfl W.heap.size 9 i0 _ 1 16 Tryz.underlying37 HI.out.1 HI.out.2.1 HI.out.2.2.1 HI.out.2.2.2 rfl (by decide) (.slice oa i oc) i ((L.take i).map str) rfl HO4.out ⟨w4.heap.size, 0, none⟩ 1 1 [.string ⟨(textB e).toArray⟩] rfl rfl (one_new _ _ _) (str_one _) (by unfold maxLen; omega) (by omega) (by have := HM4.out.size; simp; omega) ?_; intro v' w5 hown hgrow hnil hloc; have HOW := Lib.hid hown; have HGR : Hid ((w4.alloc (.cells #[.string ⟨(textB e).toArray⟩] 9)).grownBy w5 (Value.slice oa i oc).ownBlock) := Lib.hid hgrow; clear hown hgrow hnil hloc; refine Hid.out ?_)
        refine Lib.hid ?_
        obtain ⟨qa, qc, rfl⟩ := lex_form HOW.out
        go_wp2_with fail
        have hm5 : Mods None W w5 := (HM4.out.alloc _).trans' (Mods.of_grownBy HGR.out (S := fun k => (Value.slice oa i oc).ownBlock = some k) (fun k hk _ => hk)) (fun k hk hw => by have := (HO.out.lt k hk).1; omega)
        refine ⟨⟨i + 1, by omega, by go_num, ?_, hm5⟩, by simp [intOf]; omega⟩
        have htk : (L.take (i + 1)).map str = (L.take i).map str ++ [.string ⟨(textB e).toArray⟩] := by
          rw [List.take_add_one, HE2.out, List.map_append]; rfl
        rw [htk]
        exact HOW.out
      · obtain rfl : i = L.length := by omega
        have hil : ¬ (L.length : Int) < (args.length : Int) := by omega
        clear hLA
        have HO5 := Lib.hid (show wr.ownsRow W.heap.size 9 1 _ L.length (L.map str) from by have := HO.out; rwa [List.take_length] at this)
        have HJN := Lib.hid (HJN0.out _ wr HO5.out)
        have HMS := HM
        have c3 := HM.out.cellOf c3 (fun f => f)
        obtain ⟨oa, oc, rfl⟩ := lex_form HO5.out
        clear HO HAT HC HRC HJN0 HO5 HI HJ HLN
        go_wp2_with fail
        have hs0 : ¬ 9223372036854775807 < f.length + 1 := by omega
        have hs1 : ¬ 9223372036854775807 < f.length + 1 + J.length := by omega
        have hs2 : ¬ 9223372036854775807 < f.length + 1 + J.length + 1 := by omega
        go_region_held3 (fun w' => Hid (Mods None wr w') ∧ w'.cell? ⟨g, 3, none⟩ = some (.string ⟨f.toArray⟩))
          (first
            | exact ⟨Lib.hid (Mods.refl _ _).drew, c3⟩
            | assumption
            | (go_split_ands; exact ⟨Lib.hid (Mods.trans (Hid.out ‹_›) hm9), hm9.cellOf ‹_› (fun f => f)⟩))
          ((first
            | (go_at_call 54; go_split_ands; refine (HJN.out _ (Hid.out ‹Hid (Mods None wr _)›)).mono ?_; rintro e w9 ⟨rfl, hm9⟩)))
        all_goals
          go_split_ands
          clear hm9
          go_wp2_with fail
          go_ret
          refine ⟨congrArg Ending.returned (congrArg Value.string ?_), Mods.trans HMS.out (Hid.out (by assumption))⟩
          first
            | (simp only [ba_append]; done)
            | (simp [ba_append])
mutual
theorem text_any : (e : Ex) → TextC e
  | .num a n => text_num a n
  | .var a s => text_var a s
  | .bin a op l r => text_bin a op (at_of (text_any l)) (at_of (text_any r))
  | .un a op x => text_un a op (at_of (text_any x))
  | .call a f args => text_call a f (texts_any args)
  | .new a x => text_new a (text_any x)
  | .len a x => text_len a (text_any x)
  | .item a x i => by
    cases hu : isUn x
    · exact text_item_at a hu (at_of (text_any x)) (text_any i)
    · exact text_item_un a hu (text_any x) (text_any i)
  | .input a => text_input a
theorem texts_any : (l : List Ex) → ∀ e ∈ l, TextC e
  | [], e, h => nomatch h
  | a :: r, e, h => by
    rcases List.mem_cons.1 h with he | h
    · rw [he]; exact text_any a
    · exact texts_any r e h
end
end Go.Proofs.YtdgedlhefjmcpaaGreatDoor.TreeP

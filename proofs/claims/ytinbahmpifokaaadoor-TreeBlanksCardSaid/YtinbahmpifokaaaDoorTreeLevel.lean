/- How much an expression holds together. Conditions: that the levels lie as the program lays them. -/
import Derived.Test.YtinbahmpifokaaaDoorTreeTextPlain
import Derived.Test.YtinbahmpifokaaaDoorTreeEx
import Derived.Laws.PanicsMore
import Derived.Deep.MidRow
namespace Go.Proofs.YtinbahmpifokaaaDoor.TreeP
open Go.RowKit Go.Proofs.YtinbahmpifokaaaDoor.Wo
set_option linter.unusedVariables false
set_option linter.unusedSimpArgs false
theorem und6 : Tryd.prog.underlying 126 = some (.array 6 58) := by kernel_rfl
/-- The code of an expression, and its mark. -/
def codeB : Ex → Int
  | .num .. => 1
  | .var .. => 2
  | .bin .. => 3
  | .un .. => 4
  | .call .. => 5
  | .new .. => 6
  | .len .. => 7
  | .item .. => 8
  | .input .. => 9
theorem ExAt.code {W : World} {S : Nat → Prop} {e : Ex} {v : Value} (h : ExAt W S e v) : ∃ g, v = .pointer (some ⟨g, 0, none⟩) ∧ W.cell? ⟨g, 0, none⟩ = some (.int .i64 (codeB e)) := by
  have key : ∀ c a n s op l r x, Node W S v (cells8 c a n s op l r x) → ∃ g, v = .pointer (some ⟨g, 0, none⟩) ∧ W.cell? ⟨g, 0, none⟩ = some (.int .i64 c) := fun c a n s op l r x h => by
    obtain ⟨g, h1, _, h3⟩ := h
    exact ⟨g, h1, h3.cell (i := 0) rfl⟩
  cases e <;> simp only [ExAt] at h
  case num => exact key _ _ _ _ _ _ _ _ h
  case var => exact key _ _ _ _ _ _ _ _ h
  case bin => obtain ⟨x, y, h, _⟩ := h; exact key _ _ _ _ _ _ _ _ h
  case un => obtain ⟨x, h, _⟩ := h; exact key _ _ _ _ _ _ _ _ h
  case call => obtain ⟨x, y, h, _⟩ := h; exact key _ _ _ _ _ _ _ _ h
  case new => obtain ⟨x, h, _⟩ := h; exact key _ _ _ _ _ _ _ _ h
  case len => obtain ⟨x, h, _⟩ := h; exact key _ _ _ _ _ _ _ _ h
  case item => obtain ⟨x, y, h, _⟩ := h; exact key _ _ _ _ _ _ _ _ h
  case input => exact key _ _ _ _ _ _ _ _ h
theorem level_other {W : World} {S : Nat → Prop} {e : Ex} {v : Value} (h : ExAt W S e v) (hc : codeB e ≠ 3) :
    Calls Tryd.prog 41 #[v] W fun r w => r = .returned (.int .i64 6) ∧ W = w := by
  obtain ⟨g, rfl, hg⟩ := h.code
  obtain ⟨c, hcc⟩ : ∃ c, c = codeB e := ⟨_, rfl⟩
  rw [← hcc] at hg hc
  clear h hcc
  go_enter Tryd.func41, Tryd.ntmps41
  go_wp2
  go_ret
  exact ⟨rfl, rfl⟩
theorem levels_cs {W : World} {n : Nat} (h : Levels W n) : ∃ cs : List Value, cs.length = 6 ∧ W.rangeAt 2 0 cs ∧ (∀ v ∈ cs, ∃ p n c, v = Value.slice p n c) ∧ ∀ (i : Nat) (l : List (List UInt8)), levelList[i]? = some l → ∃ p o c, cs[i]? = some (.slice (some ⟨p, o, none⟩) l.length c) ∧ l.length ≤ c ∧ c ≤ 100000 ∧ (∀ (j : Nat) (m : List UInt8), l[j]? = some m → W.cell? ⟨p, o + j, none⟩ = some (str m)) := by
  obtain ⟨p0, o0, c0, a0, b0, d0, _, e0⟩ := h.2 0 _ rfl
  obtain ⟨p1, o1, c1, a1, b1, d1, _, e1⟩ := h.2 1 _ rfl
  obtain ⟨p2, o2, c2, a2, b2, d2, _, e2⟩ := h.2 2 _ rfl
  obtain ⟨p3, o3, c3, a3, b3, d3, _, e3⟩ := h.2 3 _ rfl
  obtain ⟨p4, o4, c4, a4, b4, d4, _, e4⟩ := h.2 4 _ rfl
  obtain ⟨p5, o5, c5, a5, b5, d5, _, e5⟩ := h.2 5 _ rfl
  refine ⟨[.slice (some ⟨p0, o0, none⟩) 1 c0, .slice (some ⟨p1, o1, none⟩) 1 c1, .slice (some ⟨p2, o2, none⟩) 2 c2, .slice (some ⟨p3, o3, none⟩) 4 c3, .slice (some ⟨p4, o4, none⟩) 2 c4, .slice (some ⟨p5, o5, none⟩) 3 c5], rfl, ?_, ?_, ?_⟩
  rotate_left
  · intro v hv
    simp only [List.mem_cons, List.not_mem_nil, or_false] at hv
    rcases hv with rfl | rfl | rfl | rfl | rfl | rfl <;> exact ⟨_, _, _, rfl⟩
  · intro i l hl
    have hi : i < 6 := (List.getElem?_eq_some_iff.1 hl).1
    obtain rfl | rfl | rfl | rfl | rfl | rfl : i = 0 ∨ i = 1 ∨ i = 2 ∨ i = 3 ∨ i = 4 ∨ i = 5 := by omega
    · cases hl; exact ⟨p0, o0, c0, rfl, b0, d0, e0⟩
    · cases hl; exact ⟨p1, o1, c1, rfl, b1, d1, e1⟩
    · cases hl; exact ⟨p2, o2, c2, rfl, b2, d2, e2⟩
    · cases hl; exact ⟨p3, o3, c3, rfl, b3, d3, e3⟩
    · cases hl; exact ⟨p4, o4, c4, rfl, b4, d4, e4⟩
    · cases hl; exact ⟨p5, o5, c5, rfl, b5, d5, e5⟩
  · intro j v hj
    have hi : j < 6 := (List.getElem?_eq_some_iff.1 hj).1
    obtain rfl | rfl | rfl | rfl | rfl | rfl : j = 0 ∨ j = 1 ∨ j = 2 ∨ j = 3 ∨ j = 4 ∨ j = 5 := by omega
    · cases hj; exact a0
    · cases hj; exact a1
    · cases hj; exact a2
    · cases hj; exact a3
    · cases hj; exact a4
    · cases hj; exact a5
/-- One of six slices. -/
theorem six_idx {cs : List Value} (h6 : cs.length = 6) {i : Nat} {p : Option Addr} {n c : Nat} (h : cs[i]? = some (.slice p n c)) (hall : ∀ v ∈ cs, ∃ p n c, v = Value.slice p n c) (W : World) : Sem.run Tryd.prog (Instr.index 126 (.agg cs.toArray) (.int .i64 (i : Int))) W = .ok (.slice p n c) W := by
  have hi : i < 6 := by rw [← h6]; exact (List.getElem?_eq_some_iff.1 h).1
  match cs, h6 with
  | [x0, x1, x2, x3, x4, x5], _ =>
    obtain ⟨p0, n0, c0, rfl⟩ := hall x0 (by simp)
    obtain ⟨p1, n1, c1, rfl⟩ := hall x1 (by simp)
    obtain ⟨p2, n2, c2, rfl⟩ := hall x2 (by simp)
    obtain ⟨p3, n3, c3, rfl⟩ := hall x3 (by simp)
    obtain ⟨p4, n4, c4, rfl⟩ := hall x4 (by simp)
    obtain ⟨p5, n5, c5, rfl⟩ := hall x5 (by simp)
    obtain rfl | rfl | rfl | rfl | rfl | rfl : i = 0 ∨ i = 1 ∨ i = 2 ∨ i = 3 ∨ i = 4 ∨ i = 5 := by omega
    all_goals
      cases h
      simp [Instr.index, run_underlying und6, asIntOf, go_sem]
set_option maxRecDepth 100000 in
set_option maxHeartbeats 1600000 in
theorem level_bin {W : World} {n g : Nat} {a : Int} {op : List UInt8} (hL : Levels W n) (hc : W.cell? ⟨g, 0, none⟩ = some (.int .i64 3)) (ho : W.cell? ⟨g, 4, none⟩ = some (.string ⟨op.toArray⟩)) :
    Calls Tryd.prog 41 #[.pointer (some ⟨g, 0, none⟩)] W fun r w => r = .returned (.int .i64 (lvlFrom levelList 0 op : Nat)) ∧ W = w := by
  obtain ⟨cs, h6, hrg, hall, hcs⟩ := levels_cs hL
  have HRG := Lib.hid hrg
  have h6' : (Tryd.prog.info? 126).map (·.size) = some cs.length := by rw [h6]; kernel_rfl
  have H6 := Lib.hid h6'
  have HI := Lib.hid (fun (i : Nat) (p : Option Addr) (n c : Nat) (h : cs[i]? = some (.slice p n c)) => six_idx h6 h hall W)
  have HC := Lib.hid hcs
  obtain ⟨ag, hag⟩ : ∃ ag, ag = Value.agg cs.toArray := ⟨_, rfl⟩
  rw [← hag] at HI
  have HAG := Lib.hid hag
  clear hag h6 hrg hall hcs h6' hL
  go_enter Tryd.func41, Tryd.ntmps41
  go_wp2_with (refine wpList_load_mid rfl 126 (.global 2) rfl 2 0 rfl cs _ HRG.out und6 rfl H6.out ?_; rw [← HAG.out])
  go_loopw [13] (fun v wr => ∃ i : Nat, i ≤ 6 ∧ v = .int .i64 i ∧ Hid (lvlFrom (levelList.drop i) i op = lvlFrom levelList 0 op) ∧ Hid (W = wr)) (fun v _ => (6 - intOf v).toNat)
  case atStart => exact ⟨0, by omega, rfl, Lib.hid (by first | trivial | rfl), Lib.hid (by first | trivial | rfl)⟩
  case round =>
    obtain ⟨i, hi, rfl, heq, hw⟩ := hrel
    obtain rfl := hw.out
    clear hw
    by_cases hlt : i < 6
    · obtain ⟨l, hl⟩ : ∃ l, levelList[i]? = some l := ⟨levelList[i], List.getElem?_eq_getElem (by exact hlt)⟩
      have hd : levelList.drop i = l :: levelList.drop (i + 1) := by
        have := List.drop_eq_getElem_cons (l := levelList) (i := i) (by exact hlt)
        rw [this]
        congr 1
        exact (List.getElem?_eq_some_iff.1 hl).2
      obtain ⟨p, o, c, hci, hlc, hc1, hms⟩ := HC.out i l hl
      have hix := HI.out i _ _ _ hci
      have HMS := Lib.hid hms
      have heq2 := heq.out
      rw [hd] at heq2
      have HEQ := Lib.hid heq2
      clear hl hd hci hms heq heq2
      go_wp2_with fail
      go_loopw [19] (fun v wr => ∃ j : Nat, j ≤ l.length ∧ v = .int .i64 j ∧ Hid ((l.drop j).contains op = l.contains op) ∧ Hid (W = wr)) (fun v _ => (l.length - intOf v).toNat)
      case atStart => exact ⟨0, by omega, rfl, Lib.hid (by first | trivial | rfl), Lib.hid (by first | trivial | rfl)⟩
      case round =>
        obtain ⟨j, hj, rfl, heq, hw⟩ := hrel
        obtain rfl := hw.out
        clear hw
        by_cases hjl : j < l.length
        · obtain ⟨m, hm⟩ : ∃ m, m = l[j] := ⟨_, rfl⟩
          have hd : l.drop j = m :: l.drop (j + 1) := by rw [hm]; exact List.drop_eq_getElem_cons hjl
          have hcm := HMS.out j m (by rw [hm]; exact List.getElem?_eq_getElem hjl)
          unfold str at hcm
          have heq2 := heq.out
          rw [hd] at heq2
          clear hm hd heq
          cases hq : (m == op)
          · have hnx : Hid ((l.drop (j + 1)).contains op = l.contains op) := Lib.hid (by
              rw [← heq2, List.contains_cons, show (op == m) = false by rw [Bool.eq_false_iff] at hq ⊢; intro h; exact hq (by rw [beq_iff_eq] at h ⊢; exact h.symm)]
              simp)
            clear heq2
            go_wp2_with fail
            exact ⟨⟨j + 1, by omega, by go_num, hnx, Lib.hid (by first | trivial | rfl)⟩, by simp [intOf]; omega⟩
          · have hfin : Hid (lvlFrom levelList 0 op = i) := Lib.hid (by
              rw [← HEQ.out]
              have : l.contains op = true := by
                rw [← heq2, List.contains_cons, show (op == m) = true by rw [beq_iff_eq] at hq ⊢; exact hq.symm]
                rfl
              simp only [lvlFrom, this, if_true])
            clear heq2
            go_wp2
            go_ret
            rw [hfin.out]
            exact ⟨rfl, rfl⟩
        · obtain rfl : j = l.length := by omega
          have hnx : Hid (lvlFrom (levelList.drop (i + 1)) (i + 1) op = lvlFrom levelList 0 op) := Lib.hid (by
            rw [← HEQ.out]
            have : l.contains op = false := by rw [← heq.out, List.drop_length]; rfl
            simp only [lvlFrom, this, Bool.false_eq_true, if_false])
          clear heq
          go_wp2_with fail
          exact ⟨⟨i + 1, by omega, by go_num, hnx, Lib.hid (by first | trivial | rfl)⟩, by simp [intOf]; omega⟩
    · obtain rfl : i = 6 := by omega
      have hfin : Hid (lvlFrom levelList 0 op = 0) := Lib.hid (by
        rw [← heq.out]; rfl)
      clear heq
      go_wp2
      go_ret
      rw [hfin.out]
      exact ⟨rfl, rfl⟩
theorem level_any {W : World} {S : Nat → Prop} {n : Nat} {e : Ex} {v : Value} (hL : Levels W n) (h : ExAt W S e v) :
    Calls Tryd.prog 41 #[v] W fun r w => r = .returned (.int .i64 (levelB e : Nat)) ∧ W = w := by
  by_cases hc : codeB e = 3
  · cases e <;> simp only [codeB] at hc
    all_goals first
      | (exact absurd hc (by decide))
      | skip
    simp only [ExAt] at h
    obtain ⟨x, y, ⟨g, rfl, _, hb⟩, _⟩ := h
    exact level_bin (a := 0) hL (hb.cell (i := 0) rfl) (hb.cell (i := 4) rfl)
  · have h2 := level_other h hc
    have e6 : levelB e = 6 := by cases e <;> first | rfl | exact absurd rfl hc
    rw [e6]
    exact h2
end Go.Proofs.YtinbahmpifokaaaDoor.TreeP

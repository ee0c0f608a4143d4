/- The iterator of strings.SplitSeq, as a range over it asks it. Conditions: what is asked of the loop's own word. -/
import Derived.Test.YtodgkbcgdbhpeaaGreatDoorAsmS
import Derived.Test.YtodgkbcgdbhpeaaGreatDoorRangeLaw
import Derived.Shelf.Abstract
import Derived.Shelf.RegionOpen
import Derived.OwnWalkIn
import Derived.TacticsInMore
import Derived.LoopNIn
import Derived.LoopIn
namespace Go.Proofs.YtodgkbcgdbhpeaaGreatDoor.AsmP
open Go.RowKit Go.Shelf Go.Proofs.YtodgkbcgdbhpeaaGreatDoor.WordP Go.Proofs.YtodgkbcgdbhpeaaGreatDoor.Wo Go.Proofs.YtodgkbcgdbhpeaaGreatDoor.RangeP
set_option linter.unusedVariables false
set_option linter.unusedSimpArgs false
attribute [local go_sem] Oper.semAt_some
/-- The cells that the iterator has captured: what is cut at; what is left; how much of what is cut at is kept. -/
structure CapAt (W : World) (c1 c2 c3 : Nat) (c : UInt8) (r : List UInt8) : Prop where
  sep : Blk W c1 [str [c]] 9
  rest : Blk W c2 [str r] 9
  save : Blk W c3 [.int .i64 0] 3
def leftLen (c2 : Nat) (W : World) : Nat := match W.cell? ⟨c2, 0, none⟩ with
  | some (.string b) => b.size
  | _ => 0
theorem left_of {W : World} {c2 : Nat} {r : List UInt8} (h : Blk W c2 [str r] 9) : leftLen c2 W = r.length := by
  unfold leftLen
  rw [h.cell (i := 0) rfl]
  exact size_str r
theorem indexB_app {c : UInt8} : (a b : List UInt8) → c ∉ a → Lib.indexByte (a ++ c :: b) c = a.length
  | [], b, _ => by simp [Lib.indexByte]
  | d :: a, b, h => by
    simp only [List.mem_cons, not_or] at h
    have hd : (d == c) = false := by rw [beq_eq_false_iff_ne]; exact fun e => h.1 e.symm
    have := indexB_app a b h.2
    simp only [List.cons_append, Lib.indexByte, hd, this, List.length_cons]
    simp
theorem indexB_none {c : UInt8} : (s : List UInt8) → c ∉ s → Lib.indexByte s c = -1
  | [], _ => rfl
  | d :: s, h => by
    simp only [List.mem_cons, not_or] at h
    have hd : (d == c) = false := by rw [beq_eq_false_iff_ne]; exact fun e => h.1 e.symm
    simp [Lib.indexByte, hd, indexB_none s h.2]
theorem splitL_hit {c : UInt8} {r : List UInt8} {k : Nat} (h : Lib.indexByte r c = k) : splitL c r = r.take k :: splitL c (r.drop (k + 1)) ∧ k < r.length := by
  by_cases hc : c ∈ r
  · obtain ⟨a, b, rfl, hn⟩ := first_at r hc
    rw [indexB_app a b hn] at h
    have hk : k = a.length := by omega
    subst hk
    rw [splitL_app a b hn, List.take_left' rfl]
    have hd : (a ++ c :: b).drop (a.length + 1) = b := by rw [List.drop_append]; simp
    rw [hd]
    exact ⟨rfl, by simp⟩
  · rw [indexB_none r hc] at h
    omega
theorem splitL_miss {c : UInt8} {r : List UInt8} (h : Lib.indexByte r c < 0) : splitL c r = [r] := by
  by_cases hc : c ∈ r
  · obtain ⟨a, b, rfl, hn⟩ := first_at r hc
    rw [indexB_app a b hn] at h
    omega
  · exact splitL_none r hc
theorem extract_take (r : List UInt8) (k : Nat) : (⟨r.toArray⟩ : ByteArray).extract 0 k = ⟨(r.take k).toArray⟩ := by
  apply ByteArray.ext
  rw [ByteArray.data_extract]
  simp
theorem extract_drop (r : List UInt8) (k : Nat) : (⟨r.toArray⟩ : ByteArray).extract k r.length = ⟨(r.drop k).toArray⟩ := by
  apply ByteArray.ext
  rw [ByteArray.data_extract]
  simp
  exact List.take_of_length_le (by simp)
theorem CapAt.keeps {W W' : World} {c1 c2 c3 b : Nat} {c : UInt8} {r : List UInt8} (h : CapAt W c1 c2 c3 c r) (hlt : c1 < b ∧ c2 < b ∧ c3 < b) (hk : Keeps (fun k => k = c1 ∨ k = c2 ∨ k = c3) b W W') : CapAt W' c1 c2 c3 c r :=
  ⟨(hk c1 hlt.1 (.inl rfl)).trans h.sep, (hk c2 hlt.2.1 (.inr (.inl rfl))).trans h.rest, (hk c3 hlt.2.2 (.inr (.inr rfl))).trans h.save⟩
set_option maxRecDepth 100000 in
set_option maxHeartbeats 2000000 in
theorem seq_does (n b : Nat) (hn : 2 ≤ n) (c1 c2 c3 : Nat) (hne : c1 ≠ c2 ∧ c3 ≠ c2) (hlt : c1 < b ∧ c2 < b ∧ c3 < b) (c : UInt8) (s : List UInt8) (hs : s.length ≤ 1000000) (Jc : List (List UInt8) → World → Prop) (Jx : Code → List (List UInt8) → World → Prop)
    (hJw : ∀ pre W v, Jc pre W → Jc pre (W.setCell ⟨c2, 0, none⟩ v)) :
    IterDoes (fun k => k = c1 ∨ k = c2 ∨ k = c3) n Tryz.prog 84 #[.pointer (some ⟨c1, 0, none⟩), .pointer (some ⟨c2, 0, none⟩), .pointer (some ⟨c3, 0, none⟩)] (fun x => #[str x])
      (fun pre W => Jc pre W ∧ (pre = [] → CapAt W c1 c2 c3 c s)) Jx (fun xs => xs = splitL c s) (fun pre => pre <+: splitL c s) b := by
  intro R R' hR0 hR' W1 hW1 h0 hr0 hY
  refine callsIn_of_wp Tryz.func84 rfl trivial ?_ rfl
  simp only [Tryz.ntmps84, List.size_toArray, List.length_cons, List.length_nil, Nat.reduceAdd, Nat.reduceSub, Array.replicate_succ, Array.replicate_zero, List.push_toArray, List.append_toArray, List.nil_append, List.cons_append]
  have HY := Lib.hid hY
  have HC := Lib.hid (h0.2 rfl)
  have q1 := HC.out.sep.cell (i := 0) rfl
  have q2 := HC.out.rest.cell (i := 0) rfl
  have q3 := HC.out.save.cell (i := 0) rfl
  unfold str at q1 q2 q3
  clear hY
  gi_wp2
  gi_loopw [7, 8] (fun _ _ wr => ∃ (pre : List (List UInt8)) (r : List UInt8), Hid (Jc pre wr ∧ R wr ∧ CapAt wr c1 c2 c3 c r ∧ splitL c s = pre ++ splitL c r ∧ r.length ≤ s.length ∧ (pre = [] → r = s)))
    (fun _ _ wr => leftLen c2 wr)
  case atStart => exact ⟨[], s, Lib.hid ⟨h0.1, hr0, HC.out, rfl, Nat.le_refl _, fun _ => rfl⟩⟩
  case round =>
    obtain ⟨pre, r, HL⟩ := hrel
    have q1 := HL.out.2.2.1.sep.cell (i := 0) rfl
    have q2 := HL.out.2.2.1.rest.cell (i := 0) rfl
    have q3 := HL.out.2.2.1.save.cell (i := 0) rfl
    have f2 := HL.out.2.2.1.rest.free 0
    have HIX := Lib.hid (Tryz.strings_Index_one ⟨r.toArray⟩ c wr)
    unfold str at q1 q2 q3
    have hrl : r.length ≤ 1000000 := Nat.le_trans HL.out.2.2.2.2.1 hs
    rcases Int.lt_or_le (Lib.indexByte r c) 0 with hi | hi
    · have HH := Lib.hid (splitL_miss hi)
      have hy := HY.out pre r wr ⟨HL.out.1, fun h => by have := HL.out.2.2.1; rw [HL.out.2.2.2.2.2 h] at this; exact this⟩ HL.out.2.1 (by rw [HL.out.2.2.2.1, HH.out]; exact List.prefix_refl _)
      obtain ⟨fn, tmps, assign, body, hy, hR⟩ := hy
      dsimp only [str] at hy
      gi_wp2
      refine ⟨trivial, (fun h => by omega), ?_⟩
      refine (callsIn_wide.2 HIX.out).mono ?_
      rintro e w' ⟨rfl, rfl⟩
      obtain ⟨wr, rfl⟩ : ∃ q : World, q = w' := ⟨_, rfl⟩
      gi_wp2
      refine ⟨(fun h => by omega), hR.mono ?_⟩
      rintro e W3 (⟨rfl, hJ3, hR3, hK3⟩ | ⟨rfl, cj, hx3, hr3⟩)
      · gi_wp2
        go_end0
        exact ⟨⟨_, rfl⟩, .inl ⟨pre ++ [r], by rw [HL.out.2.2.2.1, HH.out], ⟨hJ3.1, fun h => by simp at h⟩, hR3⟩⟩
      · gi_wp2
        go_end0
        exact ⟨⟨_, rfl⟩, .inr ⟨_, cj, hx3, hr3⟩⟩
    · obtain ⟨k, hk⟩ := Int.eq_ofNat_of_zero_le hi
      have HH := Lib.hid (splitL_hit hk)
      have hkl := HH.out.2
      have hy := HY.out pre (r.take k) wr ⟨HL.out.1, fun h => by have := HL.out.2.2.1; rw [HL.out.2.2.2.2.2 h] at this; exact this⟩ HL.out.2.1 (by rw [HL.out.2.2.2.1, HH.out.1]; exact ⟨_, by rw [List.append_assoc]; rfl⟩)
      obtain ⟨fn, tmps, assign, body, hy, hR⟩ := hy
      dsimp only [str] at hy
      rw [← extract_take] at hy
      gi_wp2
      refine ⟨trivial, (fun h => by omega), ?_⟩
      refine (callsIn_wide.2 HIX.out).mono ?_
      rintro e w' ⟨rfl, rfl⟩
      obtain ⟨wr, rfl⟩ : ∃ q : World, q = w' := ⟨_, rfl⟩
      gi_wp2
      refine ⟨(fun h => by omega), hR.mono ?_⟩
      rintro e W3 (⟨rfl, hJ3, hR3, hK3⟩ | ⟨rfl, cj, hx3, hr3⟩)
      · have hC3 := HL.out.2.2.1.keeps hlt hK3
        have q1 := hC3.sep.cell (i := 0) rfl
        have q2 := hC3.rest.cell (i := 0) rfl
        have f2 := hC3.rest.free 0
        have hl2 := hC3.rest.lt
        unfold str at q1 q2
        have HJ3 := Lib.hid (And.intro hJ3 (And.intro hR3 hC3))
        clear hJ3 hR3 hC3 hK3
        gi_wp2
        rw [extract_drop]
        have hc9 : CapAt (W3.setCell ⟨c2, 0, none⟩ (.string ⟨(r.drop (k + 1)).toArray⟩)) c1 c2 c3 c (r.drop (k + 1)) := ⟨HJ3.out.2.2.sep.other (a := ⟨c2, 0, none⟩) hne.1 _, HJ3.out.2.2.rest.set 0 _, HJ3.out.2.2.save.other (a := ⟨c2, 0, none⟩) hne.2 _⟩
        refine ⟨⟨pre ++ [r.take k], r.drop (k + 1), Lib.hid ⟨hJw _ _ _ HJ3.out.1.1, hR0 _ _ (fun j hj => heap_setCell_other W3 ⟨c2, 0, none⟩ j _ (by simp only; omega)) HJ3.out.2.1, hc9, ?_, ?_, by simp⟩⟩, ?_⟩
        · rw [HL.out.2.2.2.1, HH.out.1, List.append_assoc]; rfl
        · have := HL.out.2.2.2.2.1
          rw [List.length_drop]; omega
        · rw [left_of hc9.rest, left_of HL.out.2.2.1.rest, List.length_drop]
          omega
      · gi_wp2
        refine bodyPost_ret (results_none rfl _ _ _) rfl ?_
        exact ⟨⟨_, rfl⟩, .inr ⟨_, cj, hx3, hr3⟩⟩
end Go.Proofs.YtodgkbcgdbhpeaaGreatDoor.AsmP

/- A mark at a text's beginning. Printed by mkmarks.py. Conditions: that the marks lie as the program lays them. -/
import Derived.Test.YtinbahmpifokaaaDoorTreeNext
import Derived.Laws.PanicsMore
import Derived.Deep.MidRow
namespace Go.Proofs.YtinbahmpifokaaaDoor.TreeP
open Go.RowKit Go.Proofs.YtinbahmpifokaaaDoor.Wo
set_option linter.unusedVariables false
set_option linter.unusedSimpArgs false
theorem und24 : Tryd.prog.underlying 96 = some (.array 24 9) := by kernel_rfl
set_option maxRecDepth 10000 in
theorem marks_idx {i : Nat} {m : List UInt8} (h : markList[i]? = some m) (W : World) : Sem.run Tryd.prog (Instr.index 96 (.agg #[.string ⟨#[38, 38]⟩, .string ⟨#[124, 124]⟩, .string ⟨#[61, 61]⟩, .string ⟨#[33, 61]⟩, .string ⟨#[60, 61]⟩, .string ⟨#[62, 61]⟩, .string ⟨#[60]⟩, .string ⟨#[62]⟩, .string ⟨#[61]⟩, .string ⟨#[43]⟩, .string ⟨#[45]⟩, .string ⟨#[42]⟩, .string ⟨#[47]⟩, .string ⟨#[37]⟩, .string ⟨#[33]⟩, .string ⟨#[40]⟩, .string ⟨#[41]⟩, .string ⟨#[123]⟩, .string ⟨#[125]⟩, .string ⟨#[91]⟩, .string ⟨#[93]⟩, .string ⟨#[44]⟩, .string ⟨#[59]⟩, .string ⟨#[58]⟩]) (.int .i64 (i : Int))) W = .ok (.string ⟨m.toArray⟩) W := by
  have hi : i < 24 := (List.getElem?_eq_some_iff.1 h).1
  obtain rfl | rfl | rfl | rfl | rfl | rfl | rfl | rfl | rfl | rfl | rfl | rfl | rfl | rfl | rfl | rfl | rfl | rfl | rfl | rfl | rfl | rfl | rfl | rfl : i = 0 ∨ i = 1 ∨ i = 2 ∨ i = 3 ∨ i = 4 ∨ i = 5 ∨ i = 6 ∨ i = 7 ∨ i = 8 ∨ i = 9 ∨ i = 10 ∨ i = 11 ∨ i = 12 ∨ i = 13 ∨ i = 14 ∨ i = 15 ∨ i = 16 ∨ i = 17 ∨ i = 18 ∨ i = 19 ∨ i = 20 ∨ i = 21 ∨ i = 22 ∨ i = 23 := by omega
  all_goals
    cases h
    simp [Instr.index, run_underlying und24, asIntOf, go_sem]
theorem marks_range (W : World) (h : Marks W) : W.rangeAt 1 0 (markList.map str) := by
  intro j v hj
  rw [List.getElem?_map, Option.map_eq_some_iff] at hj
  obtain ⟨m, hm, rfl⟩ := hj
  rw [Nat.zero_add]
  exact h j m hm
theorem marks_size : (Tryd.prog.info? 96).map (·.size) = some (markList.map str).length := by kernel_rfl
/-- Which mark. -/
def markAt (l : List UInt8) : Nat := ((markList.find? (fun m => m.isPrefixOf l)).map List.length).getD 0
set_option maxRecDepth 100000 in
set_option maxHeartbeats 1600000 in
theorem next_mark (c : UInt8) (r : List UInt8) (W : World) (hM : Marks W) (hlen : (c :: r).length ≤ 10000000) (h1 : letterB c = false) (h : digitB c = false) :
    Calls Tryd.prog 20 #[str (c :: r)] W fun e W' => e = .returned (.tuple #[.int .i64 3, .int .i64 (markAt (c :: r) : Nat)]) ∧ W = W' := by
  have HL := Lib.hid (fun (d : UInt8) (W1 : World) => letter_any d W1)
  have HD := Lib.hid (fun (d : UInt8) (W1 : World) => digit_any d W1)
  have h0 := str_at0 (c := c) (r := r) W
  have HC := Lib.hid h
  have HC1 := Lib.hid h1
  obtain ⟨l, hl⟩ : ∃ l, l = c :: r := ⟨_, rfl⟩
  have HP := Lib.hid (fun (m : List UInt8) (w : World) => Tryd.strings_HasPrefix ⟨l.toArray⟩ ⟨m.toArray⟩ w)
  rw [← hl] at h0 hlen ⊢
  unfold str
  clear h h1 hl
  have HRG := Lib.hid (marks_range W hM)
  have HI := Lib.hid (fun (i : Nat) (m : List UInt8) (h : markList[i]? = some m) => marks_idx h W)
  obtain ⟨ag, hag⟩ : ∃ ag, ag = Value.agg (markList.map str).toArray := ⟨_, rfl⟩
  have hcast : Value.agg (markList.map str).toArray = (.agg #[.string ⟨#[38, 38]⟩, .string ⟨#[124, 124]⟩, .string ⟨#[61, 61]⟩, .string ⟨#[33, 61]⟩, .string ⟨#[60, 61]⟩, .string ⟨#[62, 61]⟩, .string ⟨#[60]⟩, .string ⟨#[62]⟩, .string ⟨#[61]⟩, .string ⟨#[43]⟩, .string ⟨#[45]⟩, .string ⟨#[42]⟩, .string ⟨#[47]⟩, .string ⟨#[37]⟩, .string ⟨#[33]⟩, .string ⟨#[40]⟩, .string ⟨#[41]⟩, .string ⟨#[123]⟩, .string ⟨#[125]⟩, .string ⟨#[91]⟩, .string ⟨#[93]⟩, .string ⟨#[44]⟩, .string ⟨#[59]⟩, .string ⟨#[58]⟩]) := rfl
  rw [← hcast, ← hag] at HI
  have HAG := Lib.hid hag
  clear hag hcast
  go_enter Tryd.func20, Tryd.ntmps20
  go_wp2_with (first | (go_at_call 32; refine (HL.out c W).mono ?_; rintro e w ⟨rfl, rfl⟩; rw [HC1.out]) | (go_at_call 33; refine (HD.out c W).mono ?_; rintro e w ⟨rfl, rfl⟩; rw [HC.out]) | (refine wpList_load_mid rfl 96 (.global 1) rfl 1 0 rfl (markList.map str) _ HRG.out und24 rfl marks_size ?_; rw [← HAG.out]))
  go_loopw [47] (fun v wr => ∃ i : Nat, i ≤ 24 ∧ v = .int .i64 i ∧ Hid ((markList.drop i).find? (fun m => m.isPrefixOf l) = markList.find? (fun m => m.isPrefixOf l)) ∧ Hid (W = wr)) (fun v _ => (24 - intOf v).toNat)
  case atStart => exact ⟨0, by omega, rfl, Lib.hid (by first | trivial | rfl), Lib.hid (by first | trivial | rfl)⟩
  case round =>
    obtain ⟨i, hi, rfl, heq, hw⟩ := hrel
    obtain rfl := hw.out
    clear hw
    by_cases hlt : i < 24
    · obtain ⟨m, hm⟩ : ∃ m, markList[i]? = some m := ⟨markList[i], List.getElem?_eq_getElem (by exact hlt)⟩
      have hd : markList.drop i = m :: markList.drop (i + 1) := by
        have := List.drop_eq_getElem_cons (l := markList) (i := i) (by exact hlt)
        rw [this]
        congr 1
        exact (List.getElem?_eq_some_iff.1 hm).2
      have hix := HI.out i m hm
      cases hs : m.isPrefixOf l
      · have hnext : Hid ((markList.drop (i + 1)).find? (fun m => m.isPrefixOf l) = markList.find? (fun m => m.isPrefixOf l)) := Lib.hid (by
          rw [← heq.out, hd, List.find?_cons, hs])
        have HS : Hid (Lib.hasPrefix l m = false) := Lib.hid hs
        clear hm hd hs heq
        go_wp2_with (go_at_call 34; refine (HP.out m W).mono ?_; rintro e w' ⟨rfl, rfl⟩; simp only [HS.out])
        exact ⟨⟨i + 1, by omega, by go_num, hnext, Lib.hid (by first | trivial | rfl)⟩, by simp [intOf]; omega⟩
      · have hfin : Hid (markAt l = m.length) := Lib.hid (by
          unfold markAt
          rw [← heq.out, hd, List.find?_cons, hs]; rfl)
        have HS : Hid (Lib.hasPrefix l m = true) := Lib.hid hs
        have hml : m.length ≤ 2 := by
          have hmem : m ∈ markList := List.mem_of_getElem? hm
          simp only [markList, List.mem_cons, List.not_mem_nil, or_false] at hmem
          rcases hmem with rfl | rfl | rfl | rfl | rfl | rfl | rfl | rfl | rfl | rfl | rfl | rfl | rfl | rfl | rfl | rfl | rfl | rfl | rfl | rfl | rfl | rfl | rfl | rfl <;> decide
        clear hm hd hs heq
        go_wp2_with (go_at_call 34; refine (HP.out m W).mono ?_; rintro e w' ⟨rfl, rfl⟩; simp only [HS.out])
        go_ret2
        rw [hfin.out]
        exact ⟨rfl, rfl⟩
    · obtain rfl : i = 24 := by omega
      have hfin : Hid (markAt l = 0) := Lib.hid (by
        unfold markAt
        rw [← heq.out]; rfl)
      clear heq
      go_wp2
      go_ret2
      rw [hfin.out]
      exact ⟨rfl, rfl⟩
/-- What stands at the beginning of a text that is not empty. -/
theorem next_any (c : UInt8) (r : List UInt8) (W : World) (hM : Marks W) (hlen : (c :: r).length ≤ 10000000) :
    Calls Tryd.prog 20 #[str (c :: r)] W fun e W' => e = .returned (.tuple #[.int .i64 (nextP (c :: r)).1, .int .i64 ((nextP (c :: r)).2 : Nat)]) ∧ W = W' := by
  cases h1 : letterB c
  · cases h2 : digitB c
    · have h := next_mark c r W hM hlen h1 h2
      have e : nextP (c :: r) = (3, markAt (c :: r)) := by
        simp only [nextP, h1, h2, Bool.false_eq_true, if_false, markAt]
        cases markList.find? (fun m => m.isPrefixOf (c :: r)) <;> rfl
      rw [e]
      exact h
    · have h := next_num c r W hlen h1 h2
      have e : nextP (c :: r) = (2, ((c :: r).takeWhile digitB).length) := by
        simp only [nextP, h1, h2, Bool.false_eq_true, if_false, if_true]
      rw [e]
      exact h
  · have h := next_word c r W hlen h1
    have e : nextP (c :: r) = (1, ((c :: r).takeWhile wordB).length) := by
      simp only [nextP, h1, if_true]
      rfl
    rw [e]
    exact h
end Go.Proofs.YtinbahmpifokaaaDoor.TreeP

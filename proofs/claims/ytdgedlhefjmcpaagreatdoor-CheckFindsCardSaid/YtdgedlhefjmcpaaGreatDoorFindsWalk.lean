/- CheckFinds, walked. Conditions: what both readers, and errors told, read of the package's variables lies (Lies, Laid, ErrLaid). -/
import Derived.Test.YtdgedlhefjmcpaaGreatDoorReads
import Derived.Test.YtdgedlhefjmcpaaGreatDoorErrIs
import Derived.Test.YtdgedlhefjmcpaaGreatDoorRckRun
namespace Go.Proofs.YtdgedlhefjmcpaaGreatDoor.TreeP.R
open Go.RowKit Go.Proofs.YtdgedlhefjmcpaaGreatDoor.Wo Go.Proofs.YtdgedlhefjmcpaaGreatDoor.TreeP
set_option linter.unusedVariables false
set_option linter.unusedSimpArgs false
theorem str_fit {s : ByteArray} (h : s.size ≤ maxLen) : s.data.toList.length ≤ 9223372036854775807 := by
  unfold maxLen at h
  simpa using h
theorem few_ps : (l : List (List UInt8 × Int)) → l.length ≤ cntPs l
  | [] => Nat.le_refl _
  | [p] => by simp [cntPs]
  | p :: q :: r => by
    have h1 : cntPs (p :: q :: r) = 3 + (1 + cntPs (q :: r)) := rfl
    have := few_ps (q :: r)
    simp only [List.length_cons] at this ⊢
    omega
theorem few_fs : {L : List Fn} → {x : Fn} → x ∈ L → cntF x ≤ cntFs L
  | a :: r, x, h => by
    simp only [cntFs]
    rcases List.mem_cons.1 h with rfl | h
    · omega
    · have := few_fs h
      omega
theorem small_of {L : List Fn} (h : Prog L) : Small L := fun f hf => by
  have h1 := h.fit f hf
  have h2 := few_ps f.params
  have h3 := few_fs hf
  have h4 := h.cnt
  have h5 : cntF f = 6 + cntPs f.params + cntSs f.body := rfl
  exact ⟨Nat.le_trans h1.1.2.2.2 (by decide), by omega, fun p hp => (h1.2.1 p hp).2⟩
/-- An error is the document's. -/
theorem is_both (L : List Fn) (W : World) (hE : ErrP.ErrLaid W) {e1 : Value} {w1 : World} (h : Checked W (checkR L) (.returned e1) w1) :
    Mods None W w1 ∧ ∀ w2, Mods None w1 w2 → Calls Tryz.prog 16 #[e1, .agg #[.int .i64 (finC (checkR L)).1, .int .i64 (finC (checkR L)).2]] w2 fun e w => e = .returned (.bool true) ∧ Mods None w2 w := by
  cases hx : checkR L with
  | error q =>
    obtain ⟨n, a⟩ := q
    rw [hx] at h
    obtain ⟨g, he, hb, hm⟩ := h
    cases he
    exact ⟨hm, fun w2 hm2 => ErrP.is_at n a g w2 ((hm.trans hm2).cellOf hE (fun f => f)) (hb.mods hm2 (fun f => f))⟩
  | ok b =>
    rw [hx] at h
    cases b with
    | true =>
      obtain ⟨he, hm⟩ := h
      cases he
      exact ⟨hm, fun w2 hm2 => ErrP.is_nil 0 w2⟩
    | false =>
      obtain ⟨he, hm⟩ := h
      cases he
      exact ⟨hm, fun w2 hm2 => ErrP.is_errno 8 8 w2 ((hm.trans hm2).cellOf hE (fun f => f))⟩
set_option maxRecDepth 100000 in
set_option maxHeartbeats 3200000 in
theorem finds_walk (s : List UInt8) (W : World) (hs : s.length ≤ 9223372036854775807) (hR : Lies W) (hT : Laid W) (hE : ErrP.ErrLaid W) :
    Calls Tryz.prog 7 #[.string ⟨s.toArray⟩] W fun e w => e = .returned (.bool true) ∧ Mods None W w := by
  have HR := Lib.hid hR
  have HT := Lib.hid hT
  have HE := Lib.hid hE
  clear hR hT hE
  have h1 := neq_fine
  have h2 := neq_3
  have h3 := neq_4
  go_enter Tryz.func7, Tryz.ntmps7
  by_cases hl : 1500 < s.length
  · have hl' : (1500 : Int) < (s.length : Int) := by omega
    go_wp2_with fail
    go_ret
    exact ⟨rfl, Mods.refl _ _⟩
  have hl' : ¬ (1500 : Int) < (s.length : Int) := by omega
  obtain ⟨x, hx⟩ := read_any s
  have HX := Lib.hid hx
  have HL := Lib.hid (show s.length ≤ 10000000 by omega)
  have HLr := Lib.hid (fun (w : World) (hm : Mods None W w) => (⟨lies_next HR.out hm, HT.out.next hm, hm.cellOf HE.out (fun f => f)⟩ : Lies w ∧ Laid w ∧ ErrP.ErrLaid w))
  clear hx hl
  go_wp2_with fail
  go_at_call 15
  refine (ref_read s x _ HR.out HL.out HX.out).mono ?_
  cases x with
  | error e =>
    obtain ⟨n1, a1⟩ := e
    rintro e w1 ⟨rfl, hn1, hm1⟩
    have hnb : ∀ (w : World), (Go.binOp .neq 40 (.agg #[.int .i64 n1, .int .i64 a1]) (.agg #[.int .i64 0, .int .i64 (-1)])).run Tryz.prog w = .ok (.bool true) w := by
      rcases hn1 with rfl | rfl
      · exact fun w => h2 a1 w
      · exact fun w => h3 a1 w
    have HW1 := Lib.hid hm1
    clear hm1 hn1 h2 h3 h1
    go_wp2_with fail
    go_at_call 11
    have hm2 : Mods None w1 (w1.alloc (.cells #[.int .i64 n1, .int .i64 a1] 40)) := (Mods.refl _ _).alloc _
    have HF2 := Lib.hid (Blk.new w1 #[.int .i64 n1, .int .i64 a1] 40)
    have HW2 := Lib.hid (HW1.out.trans hm2)
    obtain ⟨w2, hw2⟩ : ∃ q, q = w1.alloc (.cells #[.int .i64 n1, .int .i64 a1] 40) := ⟨_, rfl⟩
    obtain ⟨b2, hb2⟩ : ∃ q, q = w1.heap.size := ⟨_, rfl⟩
    rw [← hw2] at HF2 HW2 ⊢
    rw [← hb2] at HF2 ⊢
    clear hw2 hb2 hm2 HW1
    refine (tree_read s (.error (n1, a1)) w2 (HLr.out _ HW2.out).2.1 HL.out HX.out).mono ?_
    rintro e w3 ⟨g, rfl, hbg, hm3⟩
    have HF3 := Lib.hid (HF2.out.mods hm3 (fun f => f))
    have HW3 := Lib.hid (HW2.out.trans hm3)
    have HG3 := Lib.hid hbg
    have c0 := HF3.out.cell (i := 0) rfl
    have c1 := HF3.out.cell (i := 1) rfl
    have HC0 := Lib.hid (HLr.out _ HW3.out).1.fine
    obtain ⟨-, d0, d1⟩ := HC0.out
    clear hm3 hbg
    go_wp2_with fail
    go_at_call 16
    refine (ErrP.is_at n1 a1 g w3 (HLr.out _ HW3.out).2.2 HG3.out).mono ?_
    rintro e w4 ⟨rfl, hm4⟩
    have HW4 := Lib.hid (HW3.out.trans hm4)
    clear hm4 c0 c1 d0 d1
    go_wp2_with fail
    go_ret
    exact ⟨rfl, HW4.out⟩
  | ok l =>
    rintro e w1 ⟨v, vs, rfl, hrow, hfns, hm1⟩
    have HP := Lib.hid (read_prog HX.out)
    have HW1 := Lib.hid hm1
    have HV1 := Lib.hid (fs_of_row hrow.1 hfns (fun _ _ f => f))
    obtain ⟨va, vc, rfl⟩ := lex_form hrow.1
    clear hm1 h2 h3 hrow hfns
    go_wp2_with fail
    go_at_call 11
    have hm2 : Mods None w1 (w1.alloc (.cells #[.int .i64 0, .int .i64 (-1)] 40)) := (Mods.refl _ _).alloc _
    have HF2 := Lib.hid (Blk.new w1 #[.int .i64 0, .int .i64 (-1)] 40)
    have HW2 := Lib.hid (HW1.out.trans hm2)
    have HV2 := Lib.hid (HV1.out.mods hm2 (fun _ _ f => f))
    obtain ⟨w2, hw2⟩ : ∃ q, q = w1.alloc (.cells #[.int .i64 0, .int .i64 (-1)] 40) := ⟨_, rfl⟩
    obtain ⟨b2, hb2⟩ : ∃ q, q = w1.heap.size := ⟨_, rfl⟩
    rw [← hw2] at HF2 HW2 HV2 ⊢
    rw [← hb2] at HF2 ⊢
    clear hw2 hb2 hm2 HW1 HV1
    refine (tree_read s (.ok l) w2 (HLr.out _ HW2.out).2.1 HL.out HX.out).mono ?_
    rintro e w3 ⟨v2, vs2, rfl, hrow2, hfns2, hm3⟩
    have HU3 := Lib.hid (fs_of_row hrow2.1 hfns2 (fun _ _ f => f))
    obtain ⟨ua, uc, rfl⟩ := lex_form hrow2.1
    have HF3 := Lib.hid (HF2.out.mods hm3 (fun f => f))
    have HW3 := Lib.hid (HW2.out.trans hm3)
    have HV3 := Lib.hid (HV2.out.mods hm3 (fun _ _ f => f))
    have c0 := HF3.out.cell (i := 0) rfl
    have c1 := HF3.out.cell (i := 1) rfl
    have HC0 := Lib.hid (HLr.out _ HW3.out).1.fine
    obtain ⟨-, d0, d1⟩ := HC0.out
    clear hm3 hrow2 hfns2 HV2
    go_wp2_with fail
    go_at_call 12
    clear c0 c1 d0 d1 h1
    refine (check_any l _ w3 HU3.out).mono ?_
    intro e w4 hck
    obtain ⟨e1, rfl⟩ : ∃ e1, e = .returned e1 := by
      cases hy : checkR l with
      | error q => rw [hy] at hck; exact ⟨_, hck.choose_spec.1⟩
      | ok b => rw [hy] at hck; cases b with
        | true => exact ⟨_, hck.1⟩
        | false => exact ⟨_, hck.1⟩
    obtain ⟨hm4, hc4⟩ := is_both l w3 (HLr.out _ HW3.out).2.2 hck
    have HW4 := Lib.hid (HW3.out.trans hm4)
    have HV4 := Lib.hid (HV3.out.mods hm4 (fun _ _ f => f))
    have HC4 := Lib.hid hc4
    clear hm4 hc4 hck
    go_wp2_with fail
    go_at_call 25
    refine (rcheck_any l _ w4 HV4.out (HLr.out _ HW4.out).1.fine (small_of HP.out) (Nat.le_trans HP.out.few (by decide))).mono ?_
    rintro e w5 ⟨rfl, hm5⟩
    have HW5 := Lib.hid (HW4.out.trans hm5)
    have HC5 := Lib.hid (HC4.out w5 hm5)
    clear hm5
    go_wp2_with fail
    go_at_call 16
    refine HC5.out.mono ?_
    rintro e w6 ⟨rfl, hm6⟩
    have HW6 := Lib.hid (HW5.out.trans hm6)
    clear hm6
    go_wp2_with fail
    go_ret
    exact ⟨rfl, HW6.out⟩
end Go.Proofs.YtdgedlhefjmcpaaGreatDoor.TreeP.R

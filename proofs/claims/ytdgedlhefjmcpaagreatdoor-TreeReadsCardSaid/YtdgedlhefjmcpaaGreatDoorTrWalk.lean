/- TreeReads, walked. Conditions: what both readers, both writers, and errors told, read of the package's variables lies (Lies, All, ErrLaid). -/
import Derived.Test.YtdgedlhefjmcpaaGreatDoorReads
import Derived.Test.YtdgedlhefjmcpaaGreatDoorErrIs
import Derived.Test.YtdgedlhefjmcpaaGreatDoorRefSamef
import Derived.Test.YtdgedlhefjmcpaaGreatDoorRPr
namespace Go.Proofs.YtdgedlhefjmcpaaGreatDoor.TreeP.R
open Go.RowKit Go.Proofs.YtdgedlhefjmcpaaGreatDoor.Wo Go.Proofs.YtdgedlhefjmcpaaGreatDoor.TreeP
set_option linter.unusedVariables false
set_option linter.unusedSimpArgs false
theorem str_fit {s : ByteArray} (h : s.size ≤ maxLen) : s.data.toList.length ≤ 9223372036854775807 := by
  unfold maxLen at h
  simpa using h
set_option maxRecDepth 100000 in
set_option maxHeartbeats 3200000 in
theorem reads_walk (s : List UInt8) (W : World) (hs : s.length ≤ 9223372036854775807) (hR : Lies W) (hT : All W) (hE : ErrP.ErrLaid W) :
    Calls Tryz.prog 8 #[.string ⟨s.toArray⟩] W fun e w => e = .returned (.bool true) ∧ Mods None W w := by
  have HR := Lib.hid hR
  have HT := Lib.hid hT
  have HE := Lib.hid hE
  clear hR hT hE
  have h1 := neq_fine
  have h2 := neq_3
  have h3 := neq_4
  go_enter Tryz.func8, Tryz.ntmps8
  by_cases hl : 1500 < s.length
  · have hl' : (1500 : Int) < (s.length : Int) := by omega
    go_wp2_with fail
    go_ret
    exact ⟨rfl, Mods.refl _ _⟩
  have hl' : ¬ (1500 : Int) < (s.length : Int) := by omega
  obtain ⟨x, hx⟩ := read_any s
  have HX := Lib.hid hx
  have HL := Lib.hid (show s.length ≤ 10000000 by omega)
  have HLr := Lib.hid (fun (w : World) (hm : Mods None W w) => (⟨lies_next HR.out hm, HT.out.next hm, hm.cellOf HE.out (fun f => f)⟩ : Lies w ∧ All w ∧ ErrP.ErrLaid w))
  clear hx hl
  go_wp2_with fail
  go_at_call 15
  refine (ref_read s x _ HR.out HL.out HX.out).mono ?_
  cases x with
  | error e =>
    obtain ⟨n1, a1⟩ := e
    rintro e w1 ⟨rfl, hn1, hm1⟩
    have hnb : ∀ (w : World), (Go.binOp .neq 40 (.agg #[.int .i64 n1, .int .i64 a1]) (.agg #[.int .i64 0, .int .i64 (-1)])).run Tryz.prog w = .ok (.bool true) w := by
      rcases hn1 with rfl | rfl
      · exact fun w => h2 a1 w
      · exact fun w => h3 a1 w
    have HW1 := Lib.hid hm1
    clear hm1 hn1 h2 h3 h1
    go_wp2_with fail
    go_at_call 11
    have hm2 : Mods None w1 (w1.alloc (.cells #[.int .i64 n1, .int .i64 a1] 40)) := (Mods.refl _ _).alloc _
    have HF2 := Lib.hid (Blk.new w1 #[.int .i64 n1, .int .i64 a1] 40)
    have HW2 := Lib.hid (HW1.out.trans hm2)
    obtain ⟨w2, hw2⟩ : ∃ q, q = w1.alloc (.cells #[.int .i64 n1, .int .i64 a1] 40) := ⟨_, rfl⟩
    obtain ⟨b2, hb2⟩ : ∃ q, q = w1.heap.size := ⟨_, rfl⟩
    rw [← hw2] at HF2 HW2 ⊢
    rw [← hb2] at HF2 ⊢
    clear hw2 hb2 hm2 HW1
    refine (tree_read s (.error (n1, a1)) w2 (HLr.out _ HW2.out).2.1.laid HL.out HX.out).mono ?_
    rintro e w3 ⟨g, rfl, hbg, hm3⟩
    have HF3 := Lib.hid (HF2.out.mods hm3 (fun f => f))
    have HW3 := Lib.hid (HW2.out.trans hm3)
    have HG3 := Lib.hid hbg
    have c0 := HF3.out.cell (i := 0) rfl
    have c1 := HF3.out.cell (i := 1) rfl
    clear hm3 hbg
    go_wp2_with fail
    go_at_call 16
    refine (ErrP.is_at n1 a1 g w3 (HLr.out _ HW3.out).2.2 HG3.out).mono ?_
    rintro e w4 ⟨rfl, hm4⟩
    have HF4 := Lib.hid (HF3.out.mods hm4 (fun f => f))
    have HW4 := Lib.hid (HW3.out.trans hm4)
    clear hm4 c0 c1
    go_wp2_with fail
    go_at_call 17
    refine Calls.mono (funcs_nil (vs := []) (vs' := []) ⟨World.ownsRow_nil _ _ _ _, fun _ h => by cases h⟩ ⟨World.ownsRow_nil _ _ _ _, fun _ h => by cases h⟩) ?_
    rintro e w5 ⟨rfl, hm5⟩
    have HF5 := Lib.hid (HF4.out.mods hm5 (fun f => f))
    have HW5 := Lib.hid (HW4.out.trans hm5)
    have c0 := HF5.out.cell (i := 0) rfl
    have c1 := HF5.out.cell (i := 1) rfl
    have HC0 := Lib.hid (HLr.out _ HW5.out).1.fine
    obtain ⟨-, d0, d1⟩ := HC0.out
    clear hm5
    go_wp2_with fail
    go_ret
    exact ⟨rfl, HW5.out⟩
  | ok l =>
    rintro e w1 ⟨v, vs, rfl, hrow, hfns, hm1⟩
    obtain ⟨va, vc, rfl⟩ := lex_form hrow.1
    have HP := Lib.hid (read_prog HX.out)
    have HW1 := Lib.hid hm1
    have HV1 := Lib.hid (And.intro hrow hfns)
    clear hm1 h2 h3 hrow hfns
    go_wp2_with fail
    go_at_call 11
    have hm2 : Mods None w1 (w1.alloc (.cells #[.int .i64 0, .int .i64 (-1)] 40)) := (Mods.refl _ _).alloc _
    have HF2 := Lib.hid (Blk.new w1 #[.int .i64 0, .int .i64 (-1)] 40)
    have HW2 := Lib.hid (HW1.out.trans hm2)
    have HN2 := Lib.hid hm2
    obtain ⟨w2, hw2⟩ : ∃ q, q = w1.alloc (.cells #[.int .i64 0, .int .i64 (-1)] 40) := ⟨_, rfl⟩
    obtain ⟨b2, hb2⟩ : ∃ q, q = w1.heap.size := ⟨_, rfl⟩
    rw [← hw2] at HF2 HW2 HN2 ⊢
    rw [← hb2] at HF2 ⊢
    clear hw2 hb2 hm2 HW1
    refine (tree_read s (.ok l) w2 (HLr.out _ HW2.out).2.1.laid HL.out HX.out).mono ?_
    rintro e w3 ⟨v2, vs2, rfl, hrow2, hfns2, hm3⟩
    obtain ⟨ua, uc, rfl⟩ := lex_form hrow2.1
    have HF3 := Lib.hid (HF2.out.mods hm3 (fun f => f))
    have HW3 := Lib.hid (HW2.out.trans hm3)
    have HN3 := Lib.hid (HN2.out.trans hm3)
    have HV2 := Lib.hid (And.intro hrow2 hfns2)
    have c0 := HF3.out.cell (i := 0) rfl
    have c1 := HF3.out.cell (i := 1) rfl
    clear hm3 hrow2 hfns2
    go_wp2_with fail
    go_at_call 16
    refine (ErrP.is_nil 0 w3).mono ?_
    rintro e w4 ⟨rfl, hm4⟩
    have HF4 := Lib.hid (HF3.out.mods hm4 (fun f => f))
    have HW4 := Lib.hid (HW3.out.trans hm4)
    have HN4 := Lib.hid (HN3.out.trans hm4)
    have HM4 := Lib.hid hm4
    rw [show ((0 : Int) == 0) = true from rfl]
    clear hm4 c0 c1
    go_wp2_with fail
    go_at_call 17
    refine Calls.mono (funcs_same (L := l) (HV2.out.1.mods HM4.out (fun _ _ f => f)) (FnsAt.modsTo HM4.out (fun _ _ f => f) _ _ HV2.out.2) (HV1.out.1.mods HN4.out (fun _ _ f => f)) (FnsAt.modsTo HN4.out (fun _ _ f => f) _ _ HV1.out.2)) ?_
    rintro e w5 ⟨rfl, hm5⟩
    have HF5 := Lib.hid (HF4.out.mods hm5 (fun f => f))
    have HW5 := Lib.hid (HW4.out.trans hm5)
    have HN5 := Lib.hid (HN4.out.trans hm5)
    have HM5 := Lib.hid (HM4.out.trans hm5)
    have c0 := HF5.out.cell (i := 0) rfl
    have c1 := HF5.out.cell (i := 1) rfl
    have HC0 := Lib.hid (HLr.out _ HW5.out).1.fine
    obtain ⟨-, d0, d1⟩ := HC0.out
    clear hm5
    go_wp2_with fail
    go_at_call 23
    clear c0 c1 d0 d1
    refine (print_good w5 (HLr.out _ HW5.out).2.1 HP.out ⟨_, HV2.out.1.mods HM5.out (fun _ _ f => f), FnsAt.modsTo HM5.out (fun _ _ f => f) _ _ HV2.out.2⟩).mono ?_
    rintro e w6 ⟨rfl, hm6⟩
    have HW6 := Lib.hid (HW5.out.trans hm6)
    have HN6 := Lib.hid (HN5.out.trans hm6)
    clear hm6
    go_wp2_with fail
    go_at_call 26
    refine (pp_any l _ _ w6 ⟨(HLr.out _ HW6.out).2.1.prn.pow, (HLr.out _ HW6.out).1.most⟩ HP.out (HV1.out.1.mods HN6.out (fun _ _ f => f)) (FnsAt.modsTo HN6.out (fun _ _ f => f) _ _ HV1.out.2)).mono ?_
    rintro e w7 ⟨rfl, hm7⟩
    have HW7 := Lib.hid (HW6.out.trans hm7)
    clear hm7
    go_wp2_with fail
    go_ret
    exact ⟨rfl, HW7.out⟩
end Go.Proofs.YtdgedlhefjmcpaaGreatDoor.TreeP.R

/- TreeLimits, walked. Conditions: what both readers, and errors told, read of the package's variables lies (Lies, Laid, ErrLaid). -/
import Derived.Test.YtdgedlhefjmcpaaGreatDoorLimWalk
namespace Go.Proofs.YtdgedlhefjmcpaaGreatDoor.TreeP.R
open Go.RowKit Go.Proofs.YtdgedlhefjmcpaaGreatDoor.Wo Go.Proofs.YtdgedlhefjmcpaaGreatDoor.TreeP
set_option linter.unusedVariables false
set_option linter.unusedSimpArgs false
theorem tree_read (s : List UInt8) (x : Except (Int × Int) (List Fn)) (W : World) (hL : Laid W) (hlen : s.length ≤ 10000000) (h : ReadTo s x) : Calls Tryz.prog 11 #[str s] W (TreeP.Parsed W x) := by
  rcases h with ⟨f, n, a, h1, rfl⟩ | ⟨f, fp, ts, y, h1, h2, rfl⟩
  · exact TreeP.parse_bad s f n a W hL hlen h1
  · exact TreeP.parse_run s f fp ts y W hL hlen h1 h2
theorem lies_next {W W' : World} (h : Lies W) (hm : Mods None W W') : Lies W' := by
  refine ⟨?_, ?_, ?_⟩
  · obtain ⟨h1, h2, h3⟩ := h.fine.far hm (fun _ f => f.elim)
    exact ⟨Nat.lt_of_lt_of_le h1 hm.size, h2, h3⟩
  · obtain ⟨h1, m, h2⟩ := h.most.far hm (fun _ f => f.elim)
    exact ⟨Nat.lt_of_lt_of_le h1 hm.size, m, h2⟩
  · obtain ⟨h1, t, p, h2⟩ := h.rng
    exact ⟨Nat.lt_of_lt_of_le h1 hm.size, t, p, hm.cellOf h2 (fun f => f)⟩
theorem str_of {w : World} {a : Addr} {X : ByteArray} (h : w.cell? a = some (.string X)) (hl : X.size ≤ 10000000) : ∃ t : List UInt8, w.cell? a = some (.string ⟨t.toArray⟩) ∧ t.length ≤ 10000000 := by
  obtain ⟨⟨l⟩⟩ := X
  exact ⟨l, h, hl⟩
theorem size_lit (l : List UInt8) : (⟨l.toArray⟩ : ByteArray).size = l.length := rfl
set_option maxRecDepth 100000 in
set_option maxHeartbeats 3200000 in
theorem limits_walk (n m : Int) (nm : List UInt8) (W : World) (hn : -9223372036854775808 ≤ n ∧ n ≤ 9223372036854775807) (hm : -9223372036854775808 ≤ m ∧ m ≤ 9223372036854775807) (hl : nm.length ≤ 20) (hR : Lies W) (hT : Laid W) (hE : ErrP.ErrLaid W) :
    Calls Tryz.prog 4 #[.int .i64 n, .int .i64 m, .string ⟨nm.toArray⟩] W fun e w => e = .returned (.bool true) ∧ Mods None W w := by
  have HR := Lib.hid hR
  have HT := Lib.hid hT
  have HE := Lib.hid hE
  clear hR hT hE
  have h20 : ¬ (20 : Int) < (nm.length : Int) := by omega
  go_enter Tryz.func4, Tryz.ntmps4
  go_wp2_with fail
  obtain ⟨k, hk, hke⟩ := mod_small n 16 (by omega)
  rw [hke]
  clear hke
  refine (repeat_any [40] k (by decide) (by omega) _).mono ?_
  rintro e w ⟨rfl, rfl⟩
  obtain ⟨r1, hr1⟩ : ∃ r, r = rep [40] k := ⟨_, rfl⟩
  have hl1 : r1.length ≤ 16 := by rw [hr1, rep_len]; simp; omega
  rw [← hr1]
  clear hr1
  go_wp2_with fail
  refine (repeat_any [41] k (by decide) (by omega) _).mono ?_
  rintro e w ⟨rfl, rfl⟩
  obtain ⟨r2, hr2⟩ : ∃ r, r = rep [41] k := ⟨_, rfl⟩
  have hl2 : r2.length ≤ 16 := by rw [hr2, rep_len]; simp; omega
  rw [← hr2]
  clear hr2
  go_wp2_with fail
  refine (repeat_any [45] k (by decide) (by omega) _).mono ?_
  rintro e w ⟨rfl, rfl⟩
  obtain ⟨r3, hr3⟩ : ∃ r, r = rep [45] k := ⟨_, rfl⟩
  have hl3 : r3.length ≤ 16 := by rw [hr3, rep_len]; simp; omega
  rw [← hr3]
  clear hr3
  go_wp2_with fail
  refine (repeat_any [108, 101, 110, 40] k (by decide) (by omega) _).mono ?_
  rintro e w ⟨rfl, rfl⟩
  obtain ⟨r4, hr4⟩ : ∃ r, r = rep [108, 101, 110, 40] k := ⟨_, rfl⟩
  have hl4 : r4.length ≤ 64 := by rw [hr4, rep_len]; simp; omega
  rw [← hr4]
  clear hr4
  go_wp2_with fail
  refine (repeat_any [41] k (by decide) (by omega) _).mono ?_
  rintro e w ⟨rfl, rfl⟩
  obtain ⟨r5, hr5⟩ : ∃ r, r = rep [41] k := ⟨_, rfl⟩
  have hl5 : r5.length ≤ 16 := by rw [hr5, rep_len]; simp; omega
  rw [← hr5]
  clear hr5
  go_wp2_with fail
  refine (repeat_any [91, 97] k (by decide) (by omega) _).mono ?_
  rintro e w ⟨rfl, rfl⟩
  obtain ⟨r6, hr6⟩ : ∃ r, r = rep [91, 97] k := ⟨_, rfl⟩
  have hl6 : r6.length ≤ 32 := by rw [hr6, rep_len]; simp; omega
  rw [← hr6]
  clear hr6
  go_wp2_with fail
  refine (repeat_any [93] k (by decide) (by omega) _).mono ?_
  rintro e w ⟨rfl, rfl⟩
  obtain ⟨r7, hr7⟩ : ∃ r, r = rep [93] k := ⟨_, rfl⟩
  have hl7 : r7.length ≤ 16 := by rw [hr7, rep_len]; simp; omega
  rw [← hr7]
  clear hr7
  go_wp2_with fail
  refine (repeat_any [40, 102] k (by decide) (by omega) _).mono ?_
  rintro e w ⟨rfl, rfl⟩
  obtain ⟨r8, hr8⟩ : ∃ r, r = rep [40, 102] k := ⟨_, rfl⟩
  have hl8 : r8.length ≤ 32 := by rw [hr8, rep_len]; simp; omega
  rw [← hr8]
  clear hr8
  go_wp2_with fail
  refine (repeat_any [41] k (by decide) (by omega) _).mono ?_
  rintro e w ⟨rfl, rfl⟩
  obtain ⟨r9, hr9⟩ : ∃ r, r = rep [41] k := ⟨_, rfl⟩
  have hl9 : r9.length ≤ 16 := by rw [hr9, rep_len]; simp; omega
  rw [← hr9]
  clear hr9
  go_wp2_with fail
  refine (repeat_any [123, 32, 105, 102, 32, 40, 49, 41, 32] k (by decide) (by omega) _).mono ?_
  rintro e w ⟨rfl, rfl⟩
  obtain ⟨r10, hr10⟩ : ∃ r, r = rep [123, 32, 105, 102, 32, 40, 49, 41, 32] k := ⟨_, rfl⟩
  have hl10 : r10.length ≤ 144 := by rw [hr10, rep_len]; simp; omega
  rw [← hr10]
  clear hr10
  go_wp2_with fail
  obtain ⟨k1, hk1, hk1e⟩ : ∃ k1 : Nat, (k : Int) + 1 = (k1 : Int) ∧ k1 ≤ 16 := ⟨k + 1, by omega, by omega⟩
  rw [hk1]
  clear hk1
  refine (repeat_any [125] k1 (by decide) (by omega) _).mono ?_
  rintro e w ⟨rfl, rfl⟩
  obtain ⟨r11, hr11⟩ : ∃ r, r = rep [125] k1 := ⟨_, rfl⟩
  have hl11 : r11.length ≤ 16 := by rw [hr11, rep_len]; simp; omega
  rw [← hr11]
  clear hr11
  go_wp2_with fail
  obtain ⟨k2, hk2, hke⟩ := mod_small m 20 (by omega)
  refine (repeat_any [102, 110, 32, 102, 40, 41, 32, 123, 125, 32] (k) (by decide) (by omega) _).mono ?_
  rintro e w ⟨rfl, rfl⟩
  obtain ⟨r12, hr12⟩ : ∃ r, r = rep [102, 110, 32, 102, 40, 41, 32, 123, 125, 32] (k) := ⟨_, rfl⟩
  have hl12 : r12.length ≤ 150 := by rw [hr12, rep_len]; simp; omega
  rw [← hr12]
  clear hr12
  go_wp2_with fail
  clear hke
  obtain ⟨k3, hk3, hk3e⟩ : ∃ k3 : Nat, (735 : Int) + (k2 : Int) = (k3 : Int) ∧ k3 ≤ 755 := ⟨735 + k2, by omega, by omega⟩
  rw [hk3]
  clear hk3
  refine (repeat_any [49, 32, 43, 32] k3 (by decide) (by omega) _).mono ?_
  rintro e w ⟨rfl, rfl⟩
  obtain ⟨r13, hr13⟩ : ∃ r, r = rep [49, 32, 43, 32] k3 := ⟨_, rfl⟩
  have hl13 : r13.length ≤ 4000 := by rw [hr13, rep_len]; simp; omega
  rw [← hr13]
  clear hr13
  go_wp2_with fail
  generalize hw0 : W.alloc _ = w0
  replace hw0 := hw0.symm
  have HC : Hid (∀ i : Nat, i < 9 → ∃ t : List UInt8, w0.cell? ⟨W.heap.size, i, none⟩ = some (.string ⟨t.toArray⟩) ∧ t.length ≤ 10000000) := Lib.hid (by
    rw [hw0]
    intro i hi
    have hc : i = 0 ∨ i = 1 ∨ i = 2 ∨ i = 3 ∨ i = 4 ∨ i = 5 ∨ i = 6 ∨ i = 7 ∨ i = 8 := by omega
    rcases hc with rfl | rfl | rfl | rfl | rfl | rfl | rfl | rfl | rfl
    all_goals
      refine str_of ((Blk.new W _ _).cell rfl) ?_
      try simp only [ByteArray.size_append]
      try simp only [ByteArray.size, List.size_toArray]
      try simp
      omega)
  have HM : Hid (Mods None W w0) := Lib.hid (by rw [hw0]; exact (Mods.refl _ _).alloc _)
  clear hw0
  clear hl1 hl2 hl3 hl4 hl5 hl6 hl7 hl8 hl9 hl10 hl11 hl12 hl13 hk hk1e hk2 hk3e h20
  have hlW : W.heap.size < W.heap.size + 1 := by omega
  go_loopw [9, 10, 11, 12, 13] (fun iv a1 a2 a3 a4 wr => ∃ i : Nat, i ≤ 9 ∧ iv = .int .i64 i ∧ Hid (Mods None w0 wr)) (fun iv _ _ _ _ _ => (9 - intOf iv).toNat)
  case atStart => exact ⟨0, by omega, rfl, Lib.hid (Mods.refl _ _)⟩
  case round =>
    obtain ⟨i, hi, rfl, HW⟩ := hrel
    by_cases hi9 : i < 9
    · obtain ⟨t, ht, htl⟩ := HC.out i hi9
      have hcell := HW.out.cellOf ht (fun f => f)
      obtain ⟨x, hx⟩ := read_any t
      have HX := Lib.hid hx
      have HTL := Lib.hid htl
      have HLr := Lib.hid (fun (w : World) (hm : Mods None w0 w) => (⟨lies_next HR.out (HM.out.trans hm), HT.out.next (HM.out.trans hm), (HM.out.trans hm).cellOf HE.out (fun f => f)⟩ : Lies w ∧ Laid w ∧ ErrP.ErrLaid w))
      have hlt : (i : Int) < 9 := by omega
      clear hx ht htl
      go_wp2_with fail
      go_at_call 15
      refine (ref_read t x wr (HLr.out _ HW.out).1 HTL.out HX.out).mono ?_
      cases x with
      | error e =>
        obtain ⟨n1, a1⟩ := e
        rintro e w1 ⟨rfl, -, hm1⟩
        have HW1 := Lib.hid (HW.out.trans hm1)
        have hcell := hm1.cellOf hcell (fun f => f)
        have hbl := World.block_lt_of_cell? w1 _ hcell
        simp only at hbl
        clear hm1
        go_wp2_with fail
        go_at_call 11
        have hm2 : Mods None w1 (w1.alloc (.cells #[.int .i64 n1, .int .i64 a1] 40)) := (Mods.refl _ _).alloc _
        have HF2 := Lib.hid (Blk.new w1 #[.int .i64 n1, .int .i64 a1] 40)
        have HW2 := Lib.hid (HW1.out.trans hm2)
        obtain ⟨w2, hw2⟩ : ∃ q, q = w1.alloc (.cells #[.int .i64 n1, .int .i64 a1] 40) := ⟨_, rfl⟩
        obtain ⟨b2, hb2⟩ : ∃ q, q = w1.heap.size := ⟨_, rfl⟩
        rw [← hw2] at HF2 HW2 ⊢
        rw [← hb2] at HF2 ⊢
        clear hw2 hb2 hm2 hcell hbl HW1
        refine (tree_read t (.error (n1, a1)) w2 (HLr.out _ HW2.out).2.1 HTL.out HX.out).mono ?_
        rintro e w3 ⟨g, rfl, hbg, hm3⟩
        have HF3 := Lib.hid (HF2.out.mods hm3 (fun f => f))
        have HW3 := Lib.hid (HW2.out.trans hm3)
        have HG3 := Lib.hid hbg
        have c0 := HF3.out.cell (i := 0) rfl
        have c1 := HF3.out.cell (i := 1) rfl
        clear hm3 hbg
        go_wp2_with fail
        go_at_call 16
        refine (ErrP.is_at n1 a1 g w3 (HLr.out _ HW3.out).2.2 HG3.out).mono ?_
        rintro e w4 ⟨rfl, hm4⟩
        have HW4 := Lib.hid (HW3.out.trans hm4)
        clear hm4 c0 c1
        go_wp2_with fail
        go_at_call 17
        refine Calls.mono (funcs_nil (vs := []) (vs' := []) ⟨World.ownsRow_nil _ _ _ _, fun _ h => by cases h⟩ ⟨World.ownsRow_nil _ _ _ _, fun _ h => by cases h⟩) ?_
        rintro e w5 ⟨rfl, hm5⟩
        have HW5 := Lib.hid (HW4.out.trans hm5)
        clear hm5
        go_wp2_with fail
        exact ⟨⟨i + 1, by omega, by go_num, HW5⟩, by simp [intOf]; omega⟩
      | ok l =>
        rintro e w1 ⟨v, vs, rfl, hrow, hfns, hm1⟩
        obtain ⟨va, vc, rfl⟩ := lex_form hrow.1
        have HW1 := Lib.hid (HW.out.trans hm1)
        have HV1 := Lib.hid (And.intro hrow hfns)
        have hcell := hm1.cellOf hcell (fun f => f)
        have hbl := World.block_lt_of_cell? w1 _ hcell
        simp only at hbl
        clear hm1 hrow hfns
        go_wp2_with fail
        go_at_call 11
        have hm2 : Mods None w1 (w1.alloc (.cells #[.int .i64 0, .int .i64 (-1)] 40)) := (Mods.refl _ _).alloc _
        have HF2 := Lib.hid (Blk.new w1 #[.int .i64 0, .int .i64 (-1)] 40)
        have HW2 := Lib.hid (HW1.out.trans hm2)
        have HN2 := Lib.hid hm2
        obtain ⟨w2, hw2⟩ : ∃ q, q = w1.alloc (.cells #[.int .i64 0, .int .i64 (-1)] 40) := ⟨_, rfl⟩
        obtain ⟨b2, hb2⟩ : ∃ q, q = w1.heap.size := ⟨_, rfl⟩
        rw [← hw2] at HF2 HW2 HN2 ⊢
        rw [← hb2] at HF2 ⊢
        clear hw2 hb2 hm2 hcell hbl HW1
        refine (tree_read t (.ok l) w2 (HLr.out _ HW2.out).2.1 HTL.out HX.out).mono ?_
        rintro e w3 ⟨v2, vs2, rfl, hrow2, hfns2, hm3⟩
        obtain ⟨ua, uc, rfl⟩ := lex_form hrow2.1
        have HF3 := Lib.hid (HF2.out.mods hm3 (fun f => f))
        have HW3 := Lib.hid (HW2.out.trans hm3)
        have HN3 := Lib.hid (HN2.out.trans hm3)
        have HV2 := Lib.hid (And.intro hrow2 hfns2)
        have c0 := HF3.out.cell (i := 0) rfl
        have c1 := HF3.out.cell (i := 1) rfl
        clear hm3 hrow2 hfns2
        go_wp2_with fail
        go_at_call 16
        refine (ErrP.is_nil 0 w3).mono ?_
        rintro e w4 ⟨rfl, hm4⟩
        have HW4 := Lib.hid (HW3.out.trans hm4)
        have HN4 := Lib.hid (HN3.out.trans hm4)
        have HM4 := Lib.hid hm4
        rw [show ((0 : Int) == 0) = true from rfl]
        clear hm4 c0 c1
        go_wp2_with fail
        go_at_call 17
        refine Calls.mono (funcs_same (L := l) (HV2.out.1.mods HM4.out (fun _ _ f => f)) (FnsAt.modsTo HM4.out (fun _ _ f => f) _ _ HV2.out.2) (HV1.out.1.mods HN4.out (fun _ _ f => f)) (FnsAt.modsTo HN4.out (fun _ _ f => f) _ _ HV1.out.2)) ?_
        rintro e w5 ⟨rfl, hm5⟩
        have HW5 := Lib.hid (HW4.out.trans hm5)
        clear hm5
        go_wp2_with fail
        exact ⟨⟨i + 1, by omega, by go_num, HW5⟩, by simp [intOf]; omega⟩
    · have hge : ¬ (i : Int) < 9 := by omega
      go_wp2
      go_ret
      exact ⟨rfl, HM.out.trans HW.out⟩
theorem limits_long (n m : Int) (nm : List UInt8) (W : World) (hl : 20 < nm.length) :
    Calls Tryz.prog 4 #[.int .i64 n, .int .i64 m, .string ⟨nm.toArray⟩] W fun e w => e = .returned (.bool true) ∧ Mods None W w := by
  have h20 : (20 : Int) < (nm.length : Int) := by omega
  go_enter Tryz.func4, Tryz.ntmps4
  go_wp2_with fail
  go_ret
  exact ⟨rfl, Mods.refl _ _⟩
theorem limits_any (n m : Int) (nm : List UInt8) (W : World) (hn : (Lit.int .i64 n).wf = true) (hm : (Lit.int .i64 m).wf = true) (hR : Lies W) (hT : Laid W) (hE : ErrP.ErrLaid W) :
    Calls Tryz.prog 4 #[.int .i64 n, .int .i64 m, .string ⟨nm.toArray⟩] W fun e w => e = .returned (.bool true) ∧ Mods None W w := by
  by_cases hl : 20 < nm.length
  · exact limits_long n m nm W hl
  · exact limits_walk n m nm W (by simpa [Lit.wf, IntKind.min, IntKind.max, IntKind.signed, IntKind.bits] using hn) (by simpa [Lit.wf, IntKind.min, IntKind.max, IntKind.signed, IntKind.bits] using hm) (by omega) hR hT hE
end Go.Proofs.YtdgedlhefjmcpaaGreatDoor.TreeP.R

/- A step that does the same, as far as places are known. Printed by mkfstep.py. Conditions: what is asked lies. -/
import Derived.Test.YtoajcbfejplfbaaDoorFoldRd
namespace Go.Proofs.YtoajcbfejplfbaaDoor.MidP
open Go.RowKit Go.Proofs.YtoajcbfejplfbaaDoor.Wo Go.Maps Go.Proofs.YtoajcbfejplfbaaDoor.TreeP
set_option linter.unusedVariables false
set_option linter.unusedSimpArgs false
theorem put10 {w : World} {q : Nat} {z0 z1 z2 z3 z4 z5 z6 z7 z8 z9 : Value} (h : Blk w q [z0, z1, z2, z3, z4, z5, z6, z7, z8, z9] 44) (v0 v1 v2 v3 v4 v5 v6 v7 v8 v9 : Value) : Blk ((((((((((w.setCell ⟨q, 0, none⟩ (v0)).setCell ⟨q, 1, none⟩ (v1)).setCell ⟨q, 2, none⟩ (v2)).setCell ⟨q, 3, none⟩ (v3)).setCell ⟨q, 4, none⟩ (v4)).setCell ⟨q, 5, none⟩ (v5)).setCell ⟨q, 6, none⟩ (v6)).setCell ⟨q, 7, none⟩ (v7)).setCell ⟨q, 8, none⟩ (v8)).setCell ⟨q, 9, none⟩ (v9)) q [v0, v1, v2, v3, v4, v5, v6, v7, v8, v9] 44 ∧ Mods (· = q) w ((((((((((w.setCell ⟨q, 0, none⟩ (v0)).setCell ⟨q, 1, none⟩ (v1)).setCell ⟨q, 2, none⟩ (v2)).setCell ⟨q, 3, none⟩ (v3)).setCell ⟨q, 4, none⟩ (v4)).setCell ⟨q, 5, none⟩ (v5)).setCell ⟨q, 6, none⟩ (v6)).setCell ⟨q, 7, none⟩ (v7)).setCell ⟨q, 8, none⟩ (v8)).setCell ⟨q, 9, none⟩ (v9)) :=
  ⟨(((((((((h.set 0 v0).set 1 v1).set 2 v2).set 3 v3).set 4 v4).set 5 v5).set 6 v6).set 7 v7).set 8 v8).set 9 v9, (((((((((mods_set w q 0 v0).trans (mods_set _ _ 1 v1)).trans (mods_set _ _ 2 v2)).trans (mods_set _ _ 3 v3)).trans (mods_set _ _ 4 v4)).trans (mods_set _ _ 5 v5)).trans (mods_set _ _ 6 v6)).trans (mods_set _ _ 7 v7)).trans (mods_set _ _ 8 v8)).trans (mods_set _ _ 9 v9)⟩
theorem ints_nil (W : World) (S : Nat → Prop) : IntsAt W S (.slice none 0 0) [] := ⟨none, 0, rfl, Nat.zero_le _, Nat.zero_le _, fun _ => rfl, fun i x hx => by simp at hx⟩
theorem str_not {x : List UInt8} {l : List UInt8} (h : ¬ x = l) : ((⟨x.toArray⟩ : ByteArray) == ⟨l.toArray⟩) = false := by rw [str_beq]; simpa using h
set_option maxRecDepth 100000 in
set_option maxHeartbeats 8000000 in
theorem step_any {W : World} {kb nb sb n : Nat} {K : Kn} (h : KAt W kb nb sb n K) (s : Stp) (v : Value) (S : Nat → Prop) (hv : StpV W S s v) (hok : StpOk s) (hlen : s.args.length ≤ 1000000) :
    Calls Tryd.prog 62 #[.pointer (some ⟨kb, 0, none⟩), v] W fun e w => ∃ v', e = .returned v' ∧ StpV w (fun k => k < W.heap.size) (K.step s) v' ∧ Mods None W w := by
  obtain ⟨aa, ac, rfl, hargs⟩ := hv
  obtain ⟨W3, hW3⟩ : ∃ W3, W3 = (W.alloc (.cells (stpL s (.slice aa s.args.length ac)).toArray 44)).alloc (.cells #[.int .i64 0, .int .i64 0, .int .i64 0, .int .i64 0, .int .i64 0, .int .i64 0, .string ⟨#[]⟩, .int .i64 0, .string ⟨#[]⟩, .slice none 0 0] 44) := ⟨_, rfl⟩
  have hm3 : Mods None W W3 := by rw [hW3]; exact ((Mods.refl _ _).alloc _).alloc _
  have hb0 : Blk W3 W.heap.size (stpL s (.slice aa s.args.length ac)) 44 := by rw [hW3]; exact (Blk.new W _ _).alloc _
  have hb1 : Blk W3 (W.heap.size + 1) [.int .i64 0, .int .i64 0, .int .i64 0, .int .i64 0, .int .i64 0, .int .i64 0, .string ⟨#[]⟩, .int .i64 0, .string ⟨#[]⟩, .slice none 0 0] 44 := by
    rw [hW3]
    have := Blk.new (W.alloc (.cells (stpL s (.slice aa s.args.length ac)).toArray 44)) #[.int .i64 0, .int .i64 0, .int .i64 0, .int .i64 0, .int .i64 0, .int .i64 0, .string ⟨#[]⟩, .int .i64 0, .string ⟨#[]⟩, .slice none 0 0] 44
    simpa using this
  have hk3 := h.mods hm3 (fun f => f) (fun f => f) (fun f => f)
  have HRD := Lib.hid (reads_any hk3 s (.agg (stpL s (.slice aa s.args.length ac)).toArray) S ⟨aa, ac, rfl, hargs.mods (hm3.mono fun _ _ f => f.elim) (fun _ _ k => k)⟩ hok hlen)
  have d0 := hb0.cell (i := 0) rfl
  have d1 := hb0.cell (i := 1) rfl
  have d2 := hb0.cell (i := 2) rfl
  have d3 := hb0.cell (i := 3) rfl
  have d4 := hb0.cell (i := 4) rfl
  have d5 := hb0.cell (i := 5) rfl
  have d6 := hb0.cell (i := 6) rfl
  have d7 := hb0.cell (i := 7) rfl
  have d8 := hb0.cell (i := 8) rfl
  have d9 := hb0.cell (i := 9) rfl
  have HW3S : Hid (W3.heap.size = W.heap.size + 2) := Lib.hid (by rw [hW3]; simp)
  have HB0 := Lib.hid hb0
  have HB1 := Lib.hid hb1
  have HM3 := Lib.hid hm3
  have HK3 := Lib.hid hk3
  have HKL := Lib.hid (And.intro h.blk.lt (And.intro h.nums.lt h.same.lt))
  have HI64 : Hid (I64 (K.of s.a) ∧ I64 (K.of s.b)) := Lib.hid ⟨Kn.of64 h.oks hok.nums.2.2.1, Kn.of64 h.oks hok.nums.2.2.2.1⟩
  obtain ⟨an, han⟩ : ∃ an, an = s.args.length := ⟨_, rfl⟩
  obtain ⟨T, hT⟩ : ∃ T, T = K.step s := ⟨_, rfl⟩
  have HTT := Lib.hid hT
  rw [← hT, ← han]
  rw [← han] at hW3 HRD d9
  clear hm3 hb0 hb1 hk3 h hargs hok hlen han hT
  unfold stpL str at *
  go_enter Tryd.func62, Tryd.ntmps62
  go_upto_region 1 with (fail)
  rw [← hW3]
  clear hW3
  go_wp2_with fail
  go_at_call 82
  refine HRD.out.mono ?_
  rintro e w1 ⟨v', rfl, ⟨ra, rc, rfl, hrv⟩, hm1⟩
  obtain ⟨r, hr⟩ : ∃ r, r = K.reads s := ⟨_, rfl⟩
  have HR := Lib.hid hr
  rw [← hr] at hrv ⊢
  obtain ⟨rn, hrn⟩ : ∃ rn, rn = r.args.length := ⟨_, rfl⟩
  have HRN := Lib.hid hrn
  rw [← hrn] at hrv ⊢
  have hb0 := HB0.out.mods hm1 (fun f => f)
  have hb1 := HB1.out.mods hm1 (fun f => f)
  have d0 := hb0.cell (i := 0) rfl
  have f0 := hb0.free 0
  have d1 := hb0.cell (i := 1) rfl
  have f1 := hb0.free 1
  have d2 := hb0.cell (i := 2) rfl
  have f2 := hb0.free 2
  have d3 := hb0.cell (i := 3) rfl
  have f3 := hb0.free 3
  have d4 := hb0.cell (i := 4) rfl
  have f4 := hb0.free 4
  have d5 := hb0.cell (i := 5) rfl
  have f5 := hb0.free 5
  have d6 := hb0.cell (i := 6) rfl
  have f6 := hb0.free 6
  have d7 := hb0.cell (i := 7) rfl
  have f7 := hb0.free 7
  have d8 := hb0.cell (i := 8) rfl
  have f8 := hb0.free 8
  have d9 := hb0.cell (i := 9) rfl
  have f9 := hb0.free 9
  obtain ⟨w2, hw2⟩ : ∃ w2, w2 = ((((((((((w1.setCell ⟨W.heap.size, 0, none⟩ (.int .i64 r.code)).setCell ⟨W.heap.size, 1, none⟩ (.int .i64 r.dst)).setCell ⟨W.heap.size, 2, none⟩ (.int .i64 r.a)).setCell ⟨W.heap.size, 3, none⟩ (.int .i64 r.b)).setCell ⟨W.heap.size, 4, none⟩ (.int .i64 r.c)).setCell ⟨W.heap.size, 5, none⟩ (.int .i64 r.n)).setCell ⟨W.heap.size, 6, none⟩ (.string ⟨r.op.toArray⟩)).setCell ⟨W.heap.size, 7, none⟩ (.int .i64 r.label)).setCell ⟨W.heap.size, 8, none⟩ (.string ⟨r.name.toArray⟩)).setCell ⟨W.heap.size, 9, none⟩ (.slice ra rn rc)) := ⟨_, rfl⟩
  obtain ⟨hb2, hm2⟩ := put10 hb0 (.int .i64 r.code) (.int .i64 r.dst) (.int .i64 r.a) (.int .i64 r.b) (.int .i64 r.c) (.int .i64 r.n) (.string ⟨r.op.toArray⟩) (.int .i64 r.label) (.string ⟨r.name.toArray⟩) (.slice ra rn rc)
  rw [← hw2] at hb2 hm2
  have HRV := Lib.hid hrv
  have HB2 := Lib.hid hb2
  have HB12 := Lib.hid (hb1.mods hm2 (by omega))
  have HM13 := Lib.hid hm2
  have HM1X := Lib.hid hm1
  have HMW2 : Hid (Mods None W w2) := Lib.hid ((HM3.out.trans hm1).trans' hm2 (fun k hk hl => by omega))
  clear hr hrn hrv hb0 hb1 hb2 hm2 hm1 HRD HB0
  unfold stpL str
  go_upto_region 2 with (fail)
  rw [← hw2]
  clear hw2 d0 d1 d2 d3 d4 d5 d6 d7 d8 d9 f0 f1 f2 f3 f4 f5 f6 f7 f8 f9
  have hkw := HK3.out
  have hk2 : KAt w2 kb nb sb n K := by
    have h1 : KAt w1 kb nb sb n K := hkw.mods (HM1X.out) (fun f => f) (fun f => f) (fun f => f)
    have hl := HKL.out
    exact h1.mods HM13.out (by omega) (by omega) (by omega)
  obtain ⟨A, hA⟩ : ∃ A, A = K.nums r.a := ⟨_, rfl⟩
  obtain ⟨B, hB⟩ : ∃ B, B = K.nums r.b := ⟨_, rfl⟩
  have hra : I64 r.a := by rw [HR.out]; exact HI64.out.1
  have hrb : I64 r.b := by rw [HR.out]; exact HI64.out.2
  have hlA := (hk2.nums.mods (Mods.refl None w2).drew (fun f => f)).look (t := 115) Tryd.underlying115 Tryd.underlying2 (kn_zero_int64 _) hra
  have hlB := (hk2.nums.mods (Mods.refl None w2).drew.drew (fun f => f)).look (t := 115) Tryd.underlying115 Tryd.underlying2 (kn_zero_int64 _) hrb
  have k0 := hk2.blk.cell (i := 0) rfl
  have c2 := HB2.out.cell (i := 2) rfl
  have c3 := HB2.out.cell (i := 3) rfl
  rw [← hA] at hlA
  rw [← hB] at hlB
  have HTU : Hid (T = turnP r A B) := Lib.hid (by rw [HTT.out, hA, hB, HR.out]; rfl)
  clear hk2 hA hB hra hrb hkw
  go_region
  go_wp2_with fail
  go_region
  go_upto_region 4 with (fail)
  obtain ⟨w5, hw5⟩ : ∃ w5, w5 = w2.drew.drew := ⟨_, rfl⟩
  rw [← hw5]
  have hm25 : Mods None w2 w5 := by rw [hw5]; exact (Mods.refl _ _).drew.drew
  have hb5 := HB2.out.mods hm25 (fun f => f)
  have HB1 := Lib.hid (HB12.out.mods hm25 (fun f => f))
  have HM13 : Hid (Mods (· = W.heap.size) w1 w5) := Lib.hid (HM13.out.trans (hm25.mono fun _ _ f => f.elim))
  have HM3W := Lib.hid (HMW2.out.trans hm25)
  have HB5 := Lib.hid hb5
  have c0 := hb5.cell (i := 0) rfl
  have c6 := hb5.cell (i := 6) rfl
  clear c2 c3
  clear hw5 hm25 hb5 k0 hlA hlB
  by_cases h2 : r.code = 2
  · have g2 : (r.code == 2) = true := by simp [h2]
    have g3 : (r.code == 3) = false := by simp [h2]
    have g5 : (r.code == 5) = false := by simp [h2]
    cases A with
    | none =>
      have hT : T = r := by rw [HTU.out]; unfold turnP; simp [h2]
      have HT := Lib.hid hT
      clear hT
      clear h2
      go_upto_region 16 with (fail)
      clear c0 c6
      have c0 := HB5.out.cell (i := 0) rfl
      have c1 := HB5.out.cell (i := 1) rfl
      have c2 := HB5.out.cell (i := 2) rfl
      have c3 := HB5.out.cell (i := 3) rfl
      have c4 := HB5.out.cell (i := 4) rfl
      have c5 := HB5.out.cell (i := 5) rfl
      have c6 := HB5.out.cell (i := 6) rfl
      have c7 := HB5.out.cell (i := 7) rfl
      have c8 := HB5.out.cell (i := 8) rfl
      have c9 := HB5.out.cell (i := 9) rfl
      have r0 := HB1.out.cell (i := 0) rfl
      have f0 := HB1.out.free 0
      have r1 := HB1.out.cell (i := 1) rfl
      have f1 := HB1.out.free 1
      have r2 := HB1.out.cell (i := 2) rfl
      have f2 := HB1.out.free 2
      have r3 := HB1.out.cell (i := 3) rfl
      have f3 := HB1.out.free 3
      have r4 := HB1.out.cell (i := 4) rfl
      have f4 := HB1.out.free 4
      have r5 := HB1.out.cell (i := 5) rfl
      have f5 := HB1.out.free 5
      have r6 := HB1.out.cell (i := 6) rfl
      have f6 := HB1.out.free 6
      have r7 := HB1.out.cell (i := 7) rfl
      have f7 := HB1.out.free 7
      have r8 := HB1.out.cell (i := 8) rfl
      have f8 := HB1.out.free 8
      have r9 := HB1.out.cell (i := 9) rfl
      have f9 := HB1.out.free 9
      go_wp2_with fail
      clear c0 c1 c2 c3 c4 c5 c6 c7 c8 c9 r0 r1 r2 r3 r4 r5 r6 r7 r8 r9 f0 f1 f2 f3 f4 f5 f6 f7 f8 f9
      obtain ⟨hB, hm⟩ := put10 HB1.out (.int .i64 r.code) (.int .i64 r.dst) (.int .i64 r.a) (.int .i64 r.b) (.int .i64 r.c) (.int .i64 r.n) (.string ⟨r.op.toArray⟩) (.int .i64 r.label) (.string ⟨r.name.toArray⟩) (.slice ra rn rc)
      have hmn := HM3W.out.trans' hm (fun k hk hl => by omega)
      refine bodyPost_ret (v := .agg #[.int .i64 r.code, .int .i64 r.dst, .int .i64 r.a, .int .i64 r.b, .int .i64 r.c, .int .i64 r.n, .string ⟨r.op.toArray⟩, .int .i64 r.label, .string ⟨r.name.toArray⟩, .slice ra rn rc]) (results_cell_row (P := Tryd.prog) Tryd.results62 _ _ (W.heap.size + 1) 44 _ (0, 0) _ rfl hB Tryd.underlying44 rfl (by kernel_rfl)) rfl ?_
      rw [HT.out]
      exact ⟨_, rfl, ⟨ra, rc, by rw [← HRN.out]; rfl, (by rw [← HRN.out]; exact (HRV.out.mods (T := fun k => k < W3.heap.size) (HM13.out.mono fun k _ e => by have := HW3S.out; omega) (fun _ _ e => e)).mods (T := fun k => k < W.heap.size) (hm.mono fun k _ e => by have := HW3S.out; omega) (fun k _ e => by have := HW3S.out; omega))⟩, hmn⟩
    | some a =>
      have hT : T = constP r.dst a := by rw [HTU.out]; unfold turnP; simp [h2]
      have HT := Lib.hid hT
      clear hT
      clear h2
      go_upto_region 5 with (fail)
      clear c0 c6
      have c1 := HB5.out.cell (i := 1) rfl
      have r0 := HB1.out.cell (i := 0) rfl
      have f0 := HB1.out.free 0
      have r1 := HB1.out.cell (i := 1) rfl
      have f1 := HB1.out.free 1
      have r2 := HB1.out.cell (i := 2) rfl
      have f2 := HB1.out.free 2
      have r3 := HB1.out.cell (i := 3) rfl
      have f3 := HB1.out.free 3
      have r4 := HB1.out.cell (i := 4) rfl
      have f4 := HB1.out.free 4
      have r5 := HB1.out.cell (i := 5) rfl
      have f5 := HB1.out.free 5
      have r6 := HB1.out.cell (i := 6) rfl
      have f6 := HB1.out.free 6
      have r7 := HB1.out.cell (i := 7) rfl
      have f7 := HB1.out.free 7
      have r8 := HB1.out.cell (i := 8) rfl
      have f8 := HB1.out.free 8
      have r9 := HB1.out.cell (i := 9) rfl
      have f9 := HB1.out.free 9
      go_wp2_with fail
      clear c1 r0 r1 r2 r3 r4 r5 r6 r7 r8 r9 f0 f1 f2 f3 f4 f5 f6 f7 f8 f9
      obtain ⟨hB, hm⟩ := put10 HB1.out (.int .i64 1) (.int .i64 r.dst) (.int .i64 0) (.int .i64 0) (.int .i64 0) (.int .i64 a) (.string ⟨#[]⟩) (.int .i64 0) (.string ⟨#[]⟩) (.slice none 0 0)
      have hmn := HM3W.out.trans' hm (fun k hk hl => by omega)
      refine bodyPost_ret (v := .agg #[.int .i64 1, .int .i64 r.dst, .int .i64 0, .int .i64 0, .int .i64 0, .int .i64 a, .string ⟨#[]⟩, .int .i64 0, .string ⟨#[]⟩, .slice none 0 0]) (results_cell_row (P := Tryd.prog) Tryd.results62 _ _ (W.heap.size + 1) 44 _ (0, 0) _ rfl hB Tryd.underlying44 rfl (by kernel_rfl)) rfl ?_
      rw [HT.out]
      exact ⟨_, rfl, ⟨none, 0, rfl, ints_nil _ _⟩, hmn⟩
  · have g2 : (r.code == 2) = false := by simp [h2]
    by_cases h5 : r.code = 5
    · have g3 : (r.code == 3) = false := by simp [h5]
      have g5 : (r.code == 5) = true := by simp [h5]
      cases A with
      | none =>
        have hT : T = r := by rw [HTU.out]; unfold turnP; simp [h5]
        have HT := Lib.hid hT
        clear hT
        clear h2 h5
        go_upto_region 16 with (fail)
        clear c0 c6
        have c0 := HB5.out.cell (i := 0) rfl
        have c1 := HB5.out.cell (i := 1) rfl
        have c2 := HB5.out.cell (i := 2) rfl
        have c3 := HB5.out.cell (i := 3) rfl
        have c4 := HB5.out.cell (i := 4) rfl
        have c5 := HB5.out.cell (i := 5) rfl
        have c6 := HB5.out.cell (i := 6) rfl
        have c7 := HB5.out.cell (i := 7) rfl
        have c8 := HB5.out.cell (i := 8) rfl
        have c9 := HB5.out.cell (i := 9) rfl
        have r0 := HB1.out.cell (i := 0) rfl
        have f0 := HB1.out.free 0
        have r1 := HB1.out.cell (i := 1) rfl
        have f1 := HB1.out.free 1
        have r2 := HB1.out.cell (i := 2) rfl
        have f2 := HB1.out.free 2
        have r3 := HB1.out.cell (i := 3) rfl
        have f3 := HB1.out.free 3
        have r4 := HB1.out.cell (i := 4) rfl
        have f4 := HB1.out.free 4
        have r5 := HB1.out.cell (i := 5) rfl
        have f5 := HB1.out.free 5
        have r6 := HB1.out.cell (i := 6) rfl
        have f6 := HB1.out.free 6
        have r7 := HB1.out.cell (i := 7) rfl
        have f7 := HB1.out.free 7
        have r8 := HB1.out.cell (i := 8) rfl
        have f8 := HB1.out.free 8
        have r9 := HB1.out.cell (i := 9) rfl
        have f9 := HB1.out.free 9
        go_wp2_with fail
        clear c0 c1 c2 c3 c4 c5 c6 c7 c8 c9 r0 r1 r2 r3 r4 r5 r6 r7 r8 r9 f0 f1 f2 f3 f4 f5 f6 f7 f8 f9
        obtain ⟨hB, hm⟩ := put10 HB1.out (.int .i64 r.code) (.int .i64 r.dst) (.int .i64 r.a) (.int .i64 r.b) (.int .i64 r.c) (.int .i64 r.n) (.string ⟨r.op.toArray⟩) (.int .i64 r.label) (.string ⟨r.name.toArray⟩) (.slice ra rn rc)
        have hmn := HM3W.out.trans' hm (fun k hk hl => by omega)
        refine bodyPost_ret (v := .agg #[.int .i64 r.code, .int .i64 r.dst, .int .i64 r.a, .int .i64 r.b, .int .i64 r.c, .int .i64 r.n, .string ⟨r.op.toArray⟩, .int .i64 r.label, .string ⟨r.name.toArray⟩, .slice ra rn rc]) (results_cell_row (P := Tryd.prog) Tryd.results62 _ _ (W.heap.size + 1) 44 _ (0, 0) _ rfl hB Tryd.underlying44 rfl (by kernel_rfl)) rfl ?_
        rw [HT.out]
        exact ⟨_, rfl, ⟨ra, rc, by rw [← HRN.out]; rfl, (by rw [← HRN.out]; exact (HRV.out.mods (T := fun k => k < W3.heap.size) (HM13.out.mono fun k _ e => by have := HW3S.out; omega) (fun _ _ e => e)).mods (T := fun k => k < W.heap.size) (hm.mono fun k _ e => by have := HW3S.out; omega) (fun k _ e => by have := HW3S.out; omega))⟩, hmn⟩
      | some a =>
        by_cases ha : a = 0
        · subst ha
          have hT : T = jumpP r.label := by rw [HTU.out]; unfold turnP; simp [h5]
          have HT := Lib.hid hT
          clear hT
          clear h2 h5
          go_upto_region 7 with (fail)
          clear c0 c6
          have c7 := HB5.out.cell (i := 7) rfl
          have r0 := HB1.out.cell (i := 0) rfl
          have f0 := HB1.out.free 0
          have r1 := HB1.out.cell (i := 1) rfl
          have f1 := HB1.out.free 1
          have r2 := HB1.out.cell (i := 2) rfl
          have f2 := HB1.out.free 2
          have r3 := HB1.out.cell (i := 3) rfl
          have f3 := HB1.out.free 3
          have r4 := HB1.out.cell (i := 4) rfl
          have f4 := HB1.out.free 4
          have r5 := HB1.out.cell (i := 5) rfl
          have f5 := HB1.out.free 5
          have r6 := HB1.out.cell (i := 6) rfl
          have f6 := HB1.out.free 6
          have r7 := HB1.out.cell (i := 7) rfl
          have f7 := HB1.out.free 7
          have r8 := HB1.out.cell (i := 8) rfl
          have f8 := HB1.out.free 8
          have r9 := HB1.out.cell (i := 9) rfl
          have f9 := HB1.out.free 9
          go_wp2_with fail
          clear c7 r0 r1 r2 r3 r4 r5 r6 r7 r8 r9 f0 f1 f2 f3 f4 f5 f6 f7 f8 f9
          obtain ⟨hB, hm⟩ := put10 HB1.out (.int .i64 4) (.int .i64 0) (.int .i64 0) (.int .i64 0) (.int .i64 0) (.int .i64 0) (.string ⟨#[]⟩) (.int .i64 r.label) (.string ⟨#[]⟩) (.slice none 0 0)
          have hmn := HM3W.out.trans' hm (fun k hk hl => by omega)
          refine bodyPost_ret (v := .agg #[.int .i64 4, .int .i64 0, .int .i64 0, .int .i64 0, .int .i64 0, .int .i64 0, .string ⟨#[]⟩, .int .i64 r.label, .string ⟨#[]⟩, .slice none 0 0]) (results_cell_row (P := Tryd.prog) Tryd.results62 _ _ (W.heap.size + 1) 44 _ (0, 0) _ rfl hB Tryd.underlying44 rfl (by kernel_rfl)) rfl ?_
          rw [HT.out]
          exact ⟨_, rfl, ⟨none, 0, rfl, ints_nil _ _⟩, hmn⟩
        · have ga : (a == 0) = false := by simp [ha]
          have hT : T = r := by rw [HTU.out]; unfold turnP; simp [h5, ha]
          have HT := Lib.hid hT
          clear hT
          clear h2 h5 ha
          go_upto_region 16 with (fail)
          clear c0 c6
          have c0 := HB5.out.cell (i := 0) rfl
          have c1 := HB5.out.cell (i := 1) rfl
          have c2 := HB5.out.cell (i := 2) rfl
          have c3 := HB5.out.cell (i := 3) rfl
          have c4 := HB5.out.cell (i := 4) rfl
          have c5 := HB5.out.cell (i := 5) rfl
          have c6 := HB5.out.cell (i := 6) rfl
          have c7 := HB5.out.cell (i := 7) rfl
          have c8 := HB5.out.cell (i := 8) rfl
          have c9 := HB5.out.cell (i := 9) rfl
          have r0 := HB1.out.cell (i := 0) rfl
          have f0 := HB1.out.free 0
          have r1 := HB1.out.cell (i := 1) rfl
          have f1 := HB1.out.free 1
          have r2 := HB1.out.cell (i := 2) rfl
          have f2 := HB1.out.free 2
          have r3 := HB1.out.cell (i := 3) rfl
          have f3 := HB1.out.free 3
          have r4 := HB1.out.cell (i := 4) rfl
          have f4 := HB1.out.free 4
          have r5 := HB1.out.cell (i := 5) rfl
          have f5 := HB1.out.free 5
          have r6 := HB1.out.cell (i := 6) rfl
          have f6 := HB1.out.free 6
          have r7 := HB1.out.cell (i := 7) rfl
          have f7 := HB1.out.free 7
          have r8 := HB1.out.cell (i := 8) rfl
          have f8 := HB1.out.free 8
          have r9 := HB1.out.cell (i := 9) rfl
          have f9 := HB1.out.free 9
          go_wp2_with fail
          clear c0 c1 c2 c3 c4 c5 c6 c7 c8 c9 r0 r1 r2 r3 r4 r5 r6 r7 r8 r9 f0 f1 f2 f3 f4 f5 f6 f7 f8 f9
          obtain ⟨hB, hm⟩ := put10 HB1.out (.int .i64 r.code) (.int .i64 r.dst) (.int .i64 r.a) (.int .i64 r.b) (.int .i64 r.c) (.int .i64 r.n) (.string ⟨r.op.toArray⟩) (.int .i64 r.label) (.string ⟨r.name.toArray⟩) (.slice ra rn rc)
          have hmn := HM3W.out.trans' hm (fun k hk hl => by omega)
          refine bodyPost_ret (v := .agg #[.int .i64 r.code, .int .i64 r.dst, .int .i64 r.a, .int .i64 r.b, .int .i64 r.c, .int .i64 r.n, .string ⟨r.op.toArray⟩, .int .i64 r.label, .string ⟨r.name.toArray⟩, .slice ra rn rc]) (results_cell_row (P := Tryd.prog) Tryd.results62 _ _ (W.heap.size + 1) 44 _ (0, 0) _ rfl hB Tryd.underlying44 rfl (by kernel_rfl)) rfl ?_
          rw [HT.out]
          exact ⟨_, rfl, ⟨ra, rc, by rw [← HRN.out]; rfl, (by rw [← HRN.out]; exact (HRV.out.mods (T := fun k => k < W3.heap.size) (HM13.out.mono fun k _ e => by have := HW3S.out; omega) (fun _ _ e => e)).mods (T := fun k => k < W.heap.size) (hm.mono fun k _ e => by have := HW3S.out; omega) (fun k _ e => by have := HW3S.out; omega))⟩, hmn⟩
    · have g5 : (r.code == 5) = false := by simp [h5]
      by_cases h3 : r.code = 3
      · have g3 : (r.code == 3) = true := by simp [h3]
        cases A with
        | none =>
          cases B with
          | none =>
            have hT : T = r := by rw [HTU.out]; unfold turnP; simp [h3]
            have HT := Lib.hid hT
            clear hT
            clear h2 h5 h3
            go_upto_region 16 with (fail)
            clear c0 c6
            have c0 := HB5.out.cell (i := 0) rfl
            have c1 := HB5.out.cell (i := 1) rfl
            have c2 := HB5.out.cell (i := 2) rfl
            have c3 := HB5.out.cell (i := 3) rfl
            have c4 := HB5.out.cell (i := 4) rfl
            have c5 := HB5.out.cell (i := 5) rfl
            have c6 := HB5.out.cell (i := 6) rfl
            have c7 := HB5.out.cell (i := 7) rfl
            have c8 := HB5.out.cell (i := 8) rfl
            have c9 := HB5.out.cell (i := 9) rfl
            have r0 := HB1.out.cell (i := 0) rfl
            have f0 := HB1.out.free 0
            have r1 := HB1.out.cell (i := 1) rfl
            have f1 := HB1.out.free 1
            have r2 := HB1.out.cell (i := 2) rfl
            have f2 := HB1.out.free 2
            have r3 := HB1.out.cell (i := 3) rfl
            have f3 := HB1.out.free 3
            have r4 := HB1.out.cell (i := 4) rfl
            have f4 := HB1.out.free 4
            have r5 := HB1.out.cell (i := 5) rfl
            have f5 := HB1.out.free 5
            have r6 := HB1.out.cell (i := 6) rfl
            have f6 := HB1.out.free 6
            have r7 := HB1.out.cell (i := 7) rfl
            have f7 := HB1.out.free 7
            have r8 := HB1.out.cell (i := 8) rfl
            have f8 := HB1.out.free 8
            have r9 := HB1.out.cell (i := 9) rfl
            have f9 := HB1.out.free 9
            go_wp2_with fail
            clear c0 c1 c2 c3 c4 c5 c6 c7 c8 c9 r0 r1 r2 r3 r4 r5 r6 r7 r8 r9 f0 f1 f2 f3 f4 f5 f6 f7 f8 f9
            obtain ⟨hB, hm⟩ := put10 HB1.out (.int .i64 r.code) (.int .i64 r.dst) (.int .i64 r.a) (.int .i64 r.b) (.int .i64 r.c) (.int .i64 r.n) (.string ⟨r.op.toArray⟩) (.int .i64 r.label) (.string ⟨r.name.toArray⟩) (.slice ra rn rc)
            have hmn := HM3W.out.trans' hm (fun k hk hl => by omega)
            refine bodyPost_ret (v := .agg #[.int .i64 r.code, .int .i64 r.dst, .int .i64 r.a, .int .i64 r.b, .int .i64 r.c, .int .i64 r.n, .string ⟨r.op.toArray⟩, .int .i64 r.label, .string ⟨r.name.toArray⟩, .slice ra rn rc]) (results_cell_row (P := Tryd.prog) Tryd.results62 _ _ (W.heap.size + 1) 44 _ (0, 0) _ rfl hB Tryd.underlying44 rfl (by kernel_rfl)) rfl ?_
            rw [HT.out]
            exact ⟨_, rfl, ⟨ra, rc, by rw [← HRN.out]; rfl, (by rw [← HRN.out]; exact (HRV.out.mods (T := fun k => k < W3.heap.size) (HM13.out.mono fun k _ e => by have := HW3S.out; omega) (fun _ _ e => e)).mods (T := fun k => k < W.heap.size) (hm.mono fun k _ e => by have := HW3S.out; omega) (fun k _ e => by have := HW3S.out; omega))⟩, hmn⟩
          | some b =>
            by_cases hb : b = 0
            · subst hb
              by_cases o43 : r.op = [43]
              · have e43 : ((⟨r.op.toArray⟩ : ByteArray) == ⟨#[43]⟩) = true := by rw [o43]; rfl
                have n43 : (r.op == [43]) = true := by rw [o43]; rfl
                have hT : T = copyP r.dst r.a := by rw [HTU.out]; unfold turnP; simp [h3, o43]
                have HT := Lib.hid hT
                clear hT
                clear h2 h5 h3 o43
                go_upto_region 13 with (fail)
                clear c0 c6
                have c1 := HB5.out.cell (i := 1) rfl
                have c2 := HB5.out.cell (i := 2) rfl
                have r0 := HB1.out.cell (i := 0) rfl
                have f0 := HB1.out.free 0
                have r1 := HB1.out.cell (i := 1) rfl
                have f1 := HB1.out.free 1
                have r2 := HB1.out.cell (i := 2) rfl
                have f2 := HB1.out.free 2
                have r3 := HB1.out.cell (i := 3) rfl
                have f3 := HB1.out.free 3
                have r4 := HB1.out.cell (i := 4) rfl
                have f4 := HB1.out.free 4
                have r5 := HB1.out.cell (i := 5) rfl
                have f5 := HB1.out.free 5
                have r6 := HB1.out.cell (i := 6) rfl
                have f6 := HB1.out.free 6
                have r7 := HB1.out.cell (i := 7) rfl
                have f7 := HB1.out.free 7
                have r8 := HB1.out.cell (i := 8) rfl
                have f8 := HB1.out.free 8
                have r9 := HB1.out.cell (i := 9) rfl
                have f9 := HB1.out.free 9
                go_wp2_with fail
                clear c1 c2 r0 r1 r2 r3 r4 r5 r6 r7 r8 r9 f0 f1 f2 f3 f4 f5 f6 f7 f8 f9
                obtain ⟨hB, hm⟩ := put10 HB1.out (.int .i64 2) (.int .i64 r.dst) (.int .i64 r.a) (.int .i64 0) (.int .i64 0) (.int .i64 0) (.string ⟨#[]⟩) (.int .i64 0) (.string ⟨#[]⟩) (.slice none 0 0)
                have hmn := HM3W.out.trans' hm (fun k hk hl => by omega)
                refine bodyPost_ret (v := .agg #[.int .i64 2, .int .i64 r.dst, .int .i64 r.a, .int .i64 0, .int .i64 0, .int .i64 0, .string ⟨#[]⟩, .int .i64 0, .string ⟨#[]⟩, .slice none 0 0]) (results_cell_row (P := Tryd.prog) Tryd.results62 _ _ (W.heap.size + 1) 44 _ (0, 0) _ rfl hB Tryd.underlying44 rfl (by kernel_rfl)) rfl ?_
                rw [HT.out]
                exact ⟨_, rfl, ⟨none, 0, rfl, ints_nil _ _⟩, hmn⟩
              · have e43 : ((⟨r.op.toArray⟩ : ByteArray) == ⟨#[43]⟩) = false := str_not (l := [43]) o43
                have n43 : (r.op == [43]) = false := by simpa using o43
                by_cases o45 : r.op = [45]
                · have e45 : ((⟨r.op.toArray⟩ : ByteArray) == ⟨#[45]⟩) = true := by rw [o45]; rfl
                  have n45 : (r.op == [45]) = true := by rw [o45]; rfl
                  have hT : T = copyP r.dst r.a := by rw [HTU.out]; unfold turnP; simp [h3, o45]
                  have HT := Lib.hid hT
                  clear hT
                  clear h2 h5 h3 o45
                  go_upto_region 13 with (fail)
                  clear c0 c6
                  have c1 := HB5.out.cell (i := 1) rfl
                  have c2 := HB5.out.cell (i := 2) rfl
                  have r0 := HB1.out.cell (i := 0) rfl
                  have f0 := HB1.out.free 0
                  have r1 := HB1.out.cell (i := 1) rfl
                  have f1 := HB1.out.free 1
                  have r2 := HB1.out.cell (i := 2) rfl
                  have f2 := HB1.out.free 2
                  have r3 := HB1.out.cell (i := 3) rfl
                  have f3 := HB1.out.free 3
                  have r4 := HB1.out.cell (i := 4) rfl
                  have f4 := HB1.out.free 4
                  have r5 := HB1.out.cell (i := 5) rfl
                  have f5 := HB1.out.free 5
                  have r6 := HB1.out.cell (i := 6) rfl
                  have f6 := HB1.out.free 6
                  have r7 := HB1.out.cell (i := 7) rfl
                  have f7 := HB1.out.free 7
                  have r8 := HB1.out.cell (i := 8) rfl
                  have f8 := HB1.out.free 8
                  have r9 := HB1.out.cell (i := 9) rfl
                  have f9 := HB1.out.free 9
                  go_wp2_with fail
                  clear c1 c2 r0 r1 r2 r3 r4 r5 r6 r7 r8 r9 f0 f1 f2 f3 f4 f5 f6 f7 f8 f9
                  obtain ⟨hB, hm⟩ := put10 HB1.out (.int .i64 2) (.int .i64 r.dst) (.int .i64 r.a) (.int .i64 0) (.int .i64 0) (.int .i64 0) (.string ⟨#[]⟩) (.int .i64 0) (.string ⟨#[]⟩) (.slice none 0 0)
                  have hmn := HM3W.out.trans' hm (fun k hk hl => by omega)
                  refine bodyPost_ret (v := .agg #[.int .i64 2, .int .i64 r.dst, .int .i64 r.a, .int .i64 0, .int .i64 0, .int .i64 0, .string ⟨#[]⟩, .int .i64 0, .string ⟨#[]⟩, .slice none 0 0]) (results_cell_row (P := Tryd.prog) Tryd.results62 _ _ (W.heap.size + 1) 44 _ (0, 0) _ rfl hB Tryd.underlying44 rfl (by kernel_rfl)) rfl ?_
                  rw [HT.out]
                  exact ⟨_, rfl, ⟨none, 0, rfl, ints_nil _ _⟩, hmn⟩
                · have e45 : ((⟨r.op.toArray⟩ : ByteArray) == ⟨#[45]⟩) = false := str_not (l := [45]) o45
                  have n45 : (r.op == [45]) = false := by simpa using o45
                  have hT : T = r := by rw [HTU.out]; unfold turnP; simp [h3, o43, o45]
                  have HT := Lib.hid hT
                  clear hT
                  clear h2 h5 h3
                  go_upto_region 16 with (fail)
                  clear c0 c6
                  have c0 := HB5.out.cell (i := 0) rfl
                  have c1 := HB5.out.cell (i := 1) rfl
                  have c2 := HB5.out.cell (i := 2) rfl
                  have c3 := HB5.out.cell (i := 3) rfl
                  have c4 := HB5.out.cell (i := 4) rfl
                  have c5 := HB5.out.cell (i := 5) rfl
                  have c6 := HB5.out.cell (i := 6) rfl
                  have c7 := HB5.out.cell (i := 7) rfl
                  have c8 := HB5.out.cell (i := 8) rfl
                  have c9 := HB5.out.cell (i := 9) rfl
                  have r0 := HB1.out.cell (i := 0) rfl
                  have f0 := HB1.out.free 0
                  have r1 := HB1.out.cell (i := 1) rfl
                  have f1 := HB1.out.free 1
                  have r2 := HB1.out.cell (i := 2) rfl
                  have f2 := HB1.out.free 2
                  have r3 := HB1.out.cell (i := 3) rfl
                  have f3 := HB1.out.free 3
                  have r4 := HB1.out.cell (i := 4) rfl
                  have f4 := HB1.out.free 4
                  have r5 := HB1.out.cell (i := 5) rfl
                  have f5 := HB1.out.free 5
                  have r6 := HB1.out.cell (i := 6) rfl
                  have f6 := HB1.out.free 6
                  have r7 := HB1.out.cell (i := 7) rfl
                  have f7 := HB1.out.free 7
                  have r8 := HB1.out.cell (i := 8) rfl
                  have f8 := HB1.out.free 8
                  have r9 := HB1.out.cell (i := 9) rfl
                  have f9 := HB1.out.free 9
                  go_wp2_with fail
                  clear c0 c1 c2 c3 c4 c5 c6 c7 c8 c9 r0 r1 r2 r3 r4 r5 r6 r7 r8 r9 f0 f1 f2 f3 f4 f5 f6 f7 f8 f9
                  obtain ⟨hB, hm⟩ := put10 HB1.out (.int .i64 r.code) (.int .i64 r.dst) (.int .i64 r.a) (.int .i64 r.b) (.int .i64 r.c) (.int .i64 r.n) (.string ⟨r.op.toArray⟩) (.int .i64 r.label) (.string ⟨r.name.toArray⟩) (.slice ra rn rc)
                  have hmn := HM3W.out.trans' hm (fun k hk hl => by omega)
                  refine bodyPost_ret (v := .agg #[.int .i64 r.code, .int .i64 r.dst, .int .i64 r.a, .int .i64 r.b, .int .i64 r.c, .int .i64 r.n, .string ⟨r.op.toArray⟩, .int .i64 r.label, .string ⟨r.name.toArray⟩, .slice ra rn rc]) (results_cell_row (P := Tryd.prog) Tryd.results62 _ _ (W.heap.size + 1) 44 _ (0, 0) _ rfl hB Tryd.underlying44 rfl (by kernel_rfl)) rfl ?_
                  rw [HT.out]
                  exact ⟨_, rfl, ⟨ra, rc, by rw [← HRN.out]; rfl, (by rw [← HRN.out]; exact (HRV.out.mods (T := fun k => k < W3.heap.size) (HM13.out.mono fun k _ e => by have := HW3S.out; omega) (fun _ _ e => e)).mods (T := fun k => k < W.heap.size) (hm.mono fun k _ e => by have := HW3S.out; omega) (fun k _ e => by have := HW3S.out; omega))⟩, hmn⟩
            · have gb : (b == 0) = false := by simp [hb]
              by_cases hb1 : b = 1
              · subst hb1
                by_cases o42 : r.op = [42]
                · have e42 : ((⟨r.op.toArray⟩ : ByteArray) == ⟨#[42]⟩) = true := by rw [o42]; rfl
                  have n42 : (r.op == [42]) = true := by rw [o42]; rfl
                  have hT : T = copyP r.dst r.a := by rw [HTU.out]; unfold turnP; simp [h3, o42]
                  have HT := Lib.hid hT
                  clear hT
                  clear h2 h5 h3 o42
                  go_upto_region 13 with (fail)
                  clear c0 c6
                  have c1 := HB5.out.cell (i := 1) rfl
                  have c2 := HB5.out.cell (i := 2) rfl
                  have r0 := HB1.out.cell (i := 0) rfl
                  have f0 := HB1.out.free 0
                  have r1 := HB1.out.cell (i := 1) rfl
                  have f1 := HB1.out.free 1
                  have r2 := HB1.out.cell (i := 2) rfl
                  have f2 := HB1.out.free 2
                  have r3 := HB1.out.cell (i := 3) rfl
                  have f3 := HB1.out.free 3
                  have r4 := HB1.out.cell (i := 4) rfl
                  have f4 := HB1.out.free 4
                  have r5 := HB1.out.cell (i := 5) rfl
                  have f5 := HB1.out.free 5
                  have r6 := HB1.out.cell (i := 6) rfl
                  have f6 := HB1.out.free 6
                  have r7 := HB1.out.cell (i := 7) rfl
                  have f7 := HB1.out.free 7
                  have r8 := HB1.out.cell (i := 8) rfl
                  have f8 := HB1.out.free 8
                  have r9 := HB1.out.cell (i := 9) rfl
                  have f9 := HB1.out.free 9
                  go_wp2_with fail
                  clear c1 c2 r0 r1 r2 r3 r4 r5 r6 r7 r8 r9 f0 f1 f2 f3 f4 f5 f6 f7 f8 f9
                  obtain ⟨hB, hm⟩ := put10 HB1.out (.int .i64 2) (.int .i64 r.dst) (.int .i64 r.a) (.int .i64 0) (.int .i64 0) (.int .i64 0) (.string ⟨#[]⟩) (.int .i64 0) (.string ⟨#[]⟩) (.slice none 0 0)
                  have hmn := HM3W.out.trans' hm (fun k hk hl => by omega)
                  refine bodyPost_ret (v := .agg #[.int .i64 2, .int .i64 r.dst, .int .i64 r.a, .int .i64 0, .int .i64 0, .int .i64 0, .string ⟨#[]⟩, .int .i64 0, .string ⟨#[]⟩, .slice none 0 0]) (results_cell_row (P := Tryd.prog) Tryd.results62 _ _ (W.heap.size + 1) 44 _ (0, 0) _ rfl hB Tryd.underlying44 rfl (by kernel_rfl)) rfl ?_
                  rw [HT.out]
                  exact ⟨_, rfl, ⟨none, 0, rfl, ints_nil _ _⟩, hmn⟩
                · have e42 : ((⟨r.op.toArray⟩ : ByteArray) == ⟨#[42]⟩) = false := str_not (l := [42]) o42
                  have n42 : (r.op == [42]) = false := by simpa using o42
                  by_cases o47 : r.op = [47]
                  · have e47 : ((⟨r.op.toArray⟩ : ByteArray) == ⟨#[47]⟩) = true := by rw [o47]; rfl
                    have n47 : (r.op == [47]) = true := by rw [o47]; rfl
                    have hT : T = copyP r.dst r.a := by rw [HTU.out]; unfold turnP; simp [h3, o47]
                    have HT := Lib.hid hT
                    clear hT
                    clear h2 h5 h3 o47
                    go_upto_region 13 with (fail)
                    clear c0 c6
                    have c1 := HB5.out.cell (i := 1) rfl
                    have c2 := HB5.out.cell (i := 2) rfl
                    have r0 := HB1.out.cell (i := 0) rfl
                    have f0 := HB1.out.free 0
                    have r1 := HB1.out.cell (i := 1) rfl
                    have f1 := HB1.out.free 1
                    have r2 := HB1.out.cell (i := 2) rfl
                    have f2 := HB1.out.free 2
                    have r3 := HB1.out.cell (i := 3) rfl
                    have f3 := HB1.out.free 3
                    have r4 := HB1.out.cell (i := 4) rfl
                    have f4 := HB1.out.free 4
                    have r5 := HB1.out.cell (i := 5) rfl
                    have f5 := HB1.out.free 5
                    have r6 := HB1.out.cell (i := 6) rfl
                    have f6 := HB1.out.free 6
                    have r7 := HB1.out.cell (i := 7) rfl
                    have f7 := HB1.out.free 7
                    have r8 := HB1.out.cell (i := 8) rfl
                    have f8 := HB1.out.free 8
                    have r9 := HB1.out.cell (i := 9) rfl
                    have f9 := HB1.out.free 9
                    go_wp2_with fail
                    clear c1 c2 r0 r1 r2 r3 r4 r5 r6 r7 r8 r9 f0 f1 f2 f3 f4 f5 f6 f7 f8 f9
                    obtain ⟨hB, hm⟩ := put10 HB1.out (.int .i64 2) (.int .i64 r.dst) (.int .i64 r.a) (.int .i64 0) (.int .i64 0) (.int .i64 0) (.string ⟨#[]⟩) (.int .i64 0) (.string ⟨#[]⟩) (.slice none 0 0)
                    have hmn := HM3W.out.trans' hm (fun k hk hl => by omega)
                    refine bodyPost_ret (v := .agg #[.int .i64 2, .int .i64 r.dst, .int .i64 r.a, .int .i64 0, .int .i64 0, .int .i64 0, .string ⟨#[]⟩, .int .i64 0, .string ⟨#[]⟩, .slice none 0 0]) (results_cell_row (P := Tryd.prog) Tryd.results62 _ _ (W.heap.size + 1) 44 _ (0, 0) _ rfl hB Tryd.underlying44 rfl (by kernel_rfl)) rfl ?_
                    rw [HT.out]
                    exact ⟨_, rfl, ⟨none, 0, rfl, ints_nil _ _⟩, hmn⟩
                  · have e47 : ((⟨r.op.toArray⟩ : ByteArray) == ⟨#[47]⟩) = false := str_not (l := [47]) o47
                    have n47 : (r.op == [47]) = false := by simpa using o47
                    have hT : T = r := by rw [HTU.out]; unfold turnP; simp [h3, o42, o47]
                    have HT := Lib.hid hT
                    clear hT
                    clear h2 h5 h3
                    go_upto_region 16 with (fail)
                    clear c0 c6
                    have c0 := HB5.out.cell (i := 0) rfl
                    have c1 := HB5.out.cell (i := 1) rfl
                    have c2 := HB5.out.cell (i := 2) rfl
                    have c3 := HB5.out.cell (i := 3) rfl
                    have c4 := HB5.out.cell (i := 4) rfl
                    have c5 := HB5.out.cell (i := 5) rfl
                    have c6 := HB5.out.cell (i := 6) rfl
                    have c7 := HB5.out.cell (i := 7) rfl
                    have c8 := HB5.out.cell (i := 8) rfl
                    have c9 := HB5.out.cell (i := 9) rfl
                    have r0 := HB1.out.cell (i := 0) rfl
                    have f0 := HB1.out.free 0
                    have r1 := HB1.out.cell (i := 1) rfl
                    have f1 := HB1.out.free 1
                    have r2 := HB1.out.cell (i := 2) rfl
                    have f2 := HB1.out.free 2
                    have r3 := HB1.out.cell (i := 3) rfl
                    have f3 := HB1.out.free 3
                    have r4 := HB1.out.cell (i := 4) rfl
                    have f4 := HB1.out.free 4
                    have r5 := HB1.out.cell (i := 5) rfl
                    have f5 := HB1.out.free 5
                    have r6 := HB1.out.cell (i := 6) rfl
                    have f6 := HB1.out.free 6
                    have r7 := HB1.out.cell (i := 7) rfl
                    have f7 := HB1.out.free 7
                    have r8 := HB1.out.cell (i := 8) rfl
                    have f8 := HB1.out.free 8
                    have r9 := HB1.out.cell (i := 9) rfl
                    have f9 := HB1.out.free 9
                    go_wp2_with fail
                    clear c0 c1 c2 c3 c4 c5 c6 c7 c8 c9 r0 r1 r2 r3 r4 r5 r6 r7 r8 r9 f0 f1 f2 f3 f4 f5 f6 f7 f8 f9
                    obtain ⟨hB, hm⟩ := put10 HB1.out (.int .i64 r.code) (.int .i64 r.dst) (.int .i64 r.a) (.int .i64 r.b) (.int .i64 r.c) (.int .i64 r.n) (.string ⟨r.op.toArray⟩) (.int .i64 r.label) (.string ⟨r.name.toArray⟩) (.slice ra rn rc)
                    have hmn := HM3W.out.trans' hm (fun k hk hl => by omega)
                    refine bodyPost_ret (v := .agg #[.int .i64 r.code, .int .i64 r.dst, .int .i64 r.a, .int .i64 r.b, .int .i64 r.c, .int .i64 r.n, .string ⟨r.op.toArray⟩, .int .i64 r.label, .string ⟨r.name.toArray⟩, .slice ra rn rc]) (results_cell_row (P := Tryd.prog) Tryd.results62 _ _ (W.heap.size + 1) 44 _ (0, 0) _ rfl hB Tryd.underlying44 rfl (by kernel_rfl)) rfl ?_
                    rw [HT.out]
                    exact ⟨_, rfl, ⟨ra, rc, by rw [← HRN.out]; rfl, (by rw [← HRN.out]; exact (HRV.out.mods (T := fun k => k < W3.heap.size) (HM13.out.mono fun k _ e => by have := HW3S.out; omega) (fun _ _ e => e)).mods (T := fun k => k < W.heap.size) (hm.mono fun k _ e => by have := HW3S.out; omega) (fun k _ e => by have := HW3S.out; omega))⟩, hmn⟩
              · have gb1 : (b == 1) = false := by simp [hb1]
                have hT : T = r := by rw [HTU.out]; unfold turnP; simp [h3, hb, hb1]
                have HT := Lib.hid hT
                clear hT
                clear h2 h5 h3 hb hb1
                go_upto_region 16 with (fail)
                clear c0 c6
                have c0 := HB5.out.cell (i := 0) rfl
                have c1 := HB5.out.cell (i := 1) rfl
                have c2 := HB5.out.cell (i := 2) rfl
                have c3 := HB5.out.cell (i := 3) rfl
                have c4 := HB5.out.cell (i := 4) rfl
                have c5 := HB5.out.cell (i := 5) rfl
                have c6 := HB5.out.cell (i := 6) rfl
                have c7 := HB5.out.cell (i := 7) rfl
                have c8 := HB5.out.cell (i := 8) rfl
                have c9 := HB5.out.cell (i := 9) rfl
                have r0 := HB1.out.cell (i := 0) rfl
                have f0 := HB1.out.free 0
                have r1 := HB1.out.cell (i := 1) rfl
                have f1 := HB1.out.free 1
                have r2 := HB1.out.cell (i := 2) rfl
                have f2 := HB1.out.free 2
                have r3 := HB1.out.cell (i := 3) rfl
                have f3 := HB1.out.free 3
                have r4 := HB1.out.cell (i := 4) rfl
                have f4 := HB1.out.free 4
                have r5 := HB1.out.cell (i := 5) rfl
                have f5 := HB1.out.free 5
                have r6 := HB1.out.cell (i := 6) rfl
                have f6 := HB1.out.free 6
                have r7 := HB1.out.cell (i := 7) rfl
                have f7 := HB1.out.free 7
                have r8 := HB1.out.cell (i := 8) rfl
                have f8 := HB1.out.free 8
                have r9 := HB1.out.cell (i := 9) rfl
                have f9 := HB1.out.free 9
                go_wp2_with fail
                clear c0 c1 c2 c3 c4 c5 c6 c7 c8 c9 r0 r1 r2 r3 r4 r5 r6 r7 r8 r9 f0 f1 f2 f3 f4 f5 f6 f7 f8 f9
                obtain ⟨hB, hm⟩ := put10 HB1.out (.int .i64 r.code) (.int .i64 r.dst) (.int .i64 r.a) (.int .i64 r.b) (.int .i64 r.c) (.int .i64 r.n) (.string ⟨r.op.toArray⟩) (.int .i64 r.label) (.string ⟨r.name.toArray⟩) (.slice ra rn rc)
                have hmn := HM3W.out.trans' hm (fun k hk hl => by omega)
                refine bodyPost_ret (v := .agg #[.int .i64 r.code, .int .i64 r.dst, .int .i64 r.a, .int .i64 r.b, .int .i64 r.c, .int .i64 r.n, .string ⟨r.op.toArray⟩, .int .i64 r.label, .string ⟨r.name.toArray⟩, .slice ra rn rc]) (results_cell_row (P := Tryd.prog) Tryd.results62 _ _ (W.heap.size + 1) 44 _ (0, 0) _ rfl hB Tryd.underlying44 rfl (by kernel_rfl)) rfl ?_
                rw [HT.out]
                exact ⟨_, rfl, ⟨ra, rc, by rw [← HRN.out]; rfl, (by rw [← HRN.out]; exact (HRV.out.mods (T := fun k => k < W3.heap.size) (HM13.out.mono fun k _ e => by have := HW3S.out; omega) (fun _ _ e => e)).mods (T := fun k => k < W.heap.size) (hm.mono fun k _ e => by have := HW3S.out; omega) (fun k _ e => by have := HW3S.out; omega))⟩, hmn⟩
        | some a =>
          cases B with
          | none =>
            by_cases ha : a = 0
            · subst ha
              by_cases o43 : r.op = [43]
              · have e43 : ((⟨r.op.toArray⟩ : ByteArray) == ⟨#[43]⟩) = true := by rw [o43]; rfl
                have n43 : (r.op == [43]) = true := by rw [o43]; rfl
                have hT : T = copyP r.dst r.b := by rw [HTU.out]; unfold turnP; simp [h3, o43]
                have HT := Lib.hid hT
                clear hT
                clear h2 h5 h3 o43
                go_upto_region 15 with (fail)
                clear c0 c6
                have c1 := HB5.out.cell (i := 1) rfl
                have c3 := HB5.out.cell (i := 3) rfl
                have r0 := HB1.out.cell (i := 0) rfl
                have f0 := HB1.out.free 0
                have r1 := HB1.out.cell (i := 1) rfl
                have f1 := HB1.out.free 1
                have r2 := HB1.out.cell (i := 2) rfl
                have f2 := HB1.out.free 2
                have r3 := HB1.out.cell (i := 3) rfl
                have f3 := HB1.out.free 3
                have r4 := HB1.out.cell (i := 4) rfl
                have f4 := HB1.out.free 4
                have r5 := HB1.out.cell (i := 5) rfl
                have f5 := HB1.out.free 5
                have r6 := HB1.out.cell (i := 6) rfl
                have f6 := HB1.out.free 6
                have r7 := HB1.out.cell (i := 7) rfl
                have f7 := HB1.out.free 7
                have r8 := HB1.out.cell (i := 8) rfl
                have f8 := HB1.out.free 8
                have r9 := HB1.out.cell (i := 9) rfl
                have f9 := HB1.out.free 9
                go_wp2_with fail
                clear c1 c3 r0 r1 r2 r3 r4 r5 r6 r7 r8 r9 f0 f1 f2 f3 f4 f5 f6 f7 f8 f9
                obtain ⟨hB, hm⟩ := put10 HB1.out (.int .i64 2) (.int .i64 r.dst) (.int .i64 r.b) (.int .i64 0) (.int .i64 0) (.int .i64 0) (.string ⟨#[]⟩) (.int .i64 0) (.string ⟨#[]⟩) (.slice none 0 0)
                have hmn := HM3W.out.trans' hm (fun k hk hl => by omega)
                refine bodyPost_ret (v := .agg #[.int .i64 2, .int .i64 r.dst, .int .i64 r.b, .int .i64 0, .int .i64 0, .int .i64 0, .string ⟨#[]⟩, .int .i64 0, .string ⟨#[]⟩, .slice none 0 0]) (results_cell_row (P := Tryd.prog) Tryd.results62 _ _ (W.heap.size + 1) 44 _ (0, 0) _ rfl hB Tryd.underlying44 rfl (by kernel_rfl)) rfl ?_
                rw [HT.out]
                exact ⟨_, rfl, ⟨none, 0, rfl, ints_nil _ _⟩, hmn⟩
              · have e43 : ((⟨r.op.toArray⟩ : ByteArray) == ⟨#[43]⟩) = false := str_not (l := [43]) o43
                have n43 : (r.op == [43]) = false := by simpa using o43
                have hT : T = r := by rw [HTU.out]; unfold turnP; simp [h3, o43]
                have HT := Lib.hid hT
                clear hT
                clear h2 h5 h3
                go_upto_region 16 with (fail)
                clear c0 c6
                have c0 := HB5.out.cell (i := 0) rfl
                have c1 := HB5.out.cell (i := 1) rfl
                have c2 := HB5.out.cell (i := 2) rfl
                have c3 := HB5.out.cell (i := 3) rfl
                have c4 := HB5.out.cell (i := 4) rfl
                have c5 := HB5.out.cell (i := 5) rfl
                have c6 := HB5.out.cell (i := 6) rfl
                have c7 := HB5.out.cell (i := 7) rfl
                have c8 := HB5.out.cell (i := 8) rfl
                have c9 := HB5.out.cell (i := 9) rfl
                have r0 := HB1.out.cell (i := 0) rfl
                have f0 := HB1.out.free 0
                have r1 := HB1.out.cell (i := 1) rfl
                have f1 := HB1.out.free 1
                have r2 := HB1.out.cell (i := 2) rfl
                have f2 := HB1.out.free 2
                have r3 := HB1.out.cell (i := 3) rfl
                have f3 := HB1.out.free 3
                have r4 := HB1.out.cell (i := 4) rfl
                have f4 := HB1.out.free 4
                have r5 := HB1.out.cell (i := 5) rfl
                have f5 := HB1.out.free 5
                have r6 := HB1.out.cell (i := 6) rfl
                have f6 := HB1.out.free 6
                have r7 := HB1.out.cell (i := 7) rfl
                have f7 := HB1.out.free 7
                have r8 := HB1.out.cell (i := 8) rfl
                have f8 := HB1.out.free 8
                have r9 := HB1.out.cell (i := 9) rfl
                have f9 := HB1.out.free 9
                go_wp2_with fail
                clear c0 c1 c2 c3 c4 c5 c6 c7 c8 c9 r0 r1 r2 r3 r4 r5 r6 r7 r8 r9 f0 f1 f2 f3 f4 f5 f6 f7 f8 f9
                obtain ⟨hB, hm⟩ := put10 HB1.out (.int .i64 r.code) (.int .i64 r.dst) (.int .i64 r.a) (.int .i64 r.b) (.int .i64 r.c) (.int .i64 r.n) (.string ⟨r.op.toArray⟩) (.int .i64 r.label) (.string ⟨r.name.toArray⟩) (.slice ra rn rc)
                have hmn := HM3W.out.trans' hm (fun k hk hl => by omega)
                refine bodyPost_ret (v := .agg #[.int .i64 r.code, .int .i64 r.dst, .int .i64 r.a, .int .i64 r.b, .int .i64 r.c, .int .i64 r.n, .string ⟨r.op.toArray⟩, .int .i64 r.label, .string ⟨r.name.toArray⟩, .slice ra rn rc]) (results_cell_row (P := Tryd.prog) Tryd.results62 _ _ (W.heap.size + 1) 44 _ (0, 0) _ rfl hB Tryd.underlying44 rfl (by kernel_rfl)) rfl ?_
                rw [HT.out]
                exact ⟨_, rfl, ⟨ra, rc, by rw [← HRN.out]; rfl, (by rw [← HRN.out]; exact (HRV.out.mods (T := fun k => k < W3.heap.size) (HM13.out.mono fun k _ e => by have := HW3S.out; omega) (fun _ _ e => e)).mods (T := fun k => k < W.heap.size) (hm.mono fun k _ e => by have := HW3S.out; omega) (fun k _ e => by have := HW3S.out; omega))⟩, hmn⟩
            · have ga : (a == 0) = false := by simp [ha]
              by_cases ha1 : a = 1
              · subst ha1
                by_cases o42 : r.op = [42]
                · have e42 : ((⟨r.op.toArray⟩ : ByteArray) == ⟨#[42]⟩) = true := by rw [o42]; rfl
                  have n42 : (r.op == [42]) = true := by rw [o42]; rfl
                  have hT : T = copyP r.dst r.b := by rw [HTU.out]; unfold turnP; simp [h3, o42]
                  have HT := Lib.hid hT
                  clear hT
                  clear h2 h5 h3 o42
                  go_upto_region 15 with (fail)
                  clear c0 c6
                  have c1 := HB5.out.cell (i := 1) rfl
                  have c3 := HB5.out.cell (i := 3) rfl
                  have r0 := HB1.out.cell (i := 0) rfl
                  have f0 := HB1.out.free 0
                  have r1 := HB1.out.cell (i := 1) rfl
                  have f1 := HB1.out.free 1
                  have r2 := HB1.out.cell (i := 2) rfl
                  have f2 := HB1.out.free 2
                  have r3 := HB1.out.cell (i := 3) rfl
                  have f3 := HB1.out.free 3
                  have r4 := HB1.out.cell (i := 4) rfl
                  have f4 := HB1.out.free 4
                  have r5 := HB1.out.cell (i := 5) rfl
                  have f5 := HB1.out.free 5
                  have r6 := HB1.out.cell (i := 6) rfl
                  have f6 := HB1.out.free 6
                  have r7 := HB1.out.cell (i := 7) rfl
                  have f7 := HB1.out.free 7
                  have r8 := HB1.out.cell (i := 8) rfl
                  have f8 := HB1.out.free 8
                  have r9 := HB1.out.cell (i := 9) rfl
                  have f9 := HB1.out.free 9
                  go_wp2_with fail
                  clear c1 c3 r0 r1 r2 r3 r4 r5 r6 r7 r8 r9 f0 f1 f2 f3 f4 f5 f6 f7 f8 f9
                  obtain ⟨hB, hm⟩ := put10 HB1.out (.int .i64 2) (.int .i64 r.dst) (.int .i64 r.b) (.int .i64 0) (.int .i64 0) (.int .i64 0) (.string ⟨#[]⟩) (.int .i64 0) (.string ⟨#[]⟩) (.slice none 0 0)
                  have hmn := HM3W.out.trans' hm (fun k hk hl => by omega)
                  refine bodyPost_ret (v := .agg #[.int .i64 2, .int .i64 r.dst, .int .i64 r.b, .int .i64 0, .int .i64 0, .int .i64 0, .string ⟨#[]⟩, .int .i64 0, .string ⟨#[]⟩, .slice none 0 0]) (results_cell_row (P := Tryd.prog) Tryd.results62 _ _ (W.heap.size + 1) 44 _ (0, 0) _ rfl hB Tryd.underlying44 rfl (by kernel_rfl)) rfl ?_
                  rw [HT.out]
                  exact ⟨_, rfl, ⟨none, 0, rfl, ints_nil _ _⟩, hmn⟩
                · have e42 : ((⟨r.op.toArray⟩ : ByteArray) == ⟨#[42]⟩) = false := str_not (l := [42]) o42
                  have n42 : (r.op == [42]) = false := by simpa using o42
                  have hT : T = r := by rw [HTU.out]; unfold turnP; simp [h3, o42]
                  have HT := Lib.hid hT
                  clear hT
                  clear h2 h5 h3
                  go_upto_region 16 with (fail)
                  clear c0 c6
                  have c0 := HB5.out.cell (i := 0) rfl
                  have c1 := HB5.out.cell (i := 1) rfl
                  have c2 := HB5.out.cell (i := 2) rfl
                  have c3 := HB5.out.cell (i := 3) rfl
                  have c4 := HB5.out.cell (i := 4) rfl
                  have c5 := HB5.out.cell (i := 5) rfl
                  have c6 := HB5.out.cell (i := 6) rfl
                  have c7 := HB5.out.cell (i := 7) rfl
                  have c8 := HB5.out.cell (i := 8) rfl
                  have c9 := HB5.out.cell (i := 9) rfl
                  have r0 := HB1.out.cell (i := 0) rfl
                  have f0 := HB1.out.free 0
                  have r1 := HB1.out.cell (i := 1) rfl
                  have f1 := HB1.out.free 1
                  have r2 := HB1.out.cell (i := 2) rfl
                  have f2 := HB1.out.free 2
                  have r3 := HB1.out.cell (i := 3) rfl
                  have f3 := HB1.out.free 3
                  have r4 := HB1.out.cell (i := 4) rfl
                  have f4 := HB1.out.free 4
                  have r5 := HB1.out.cell (i := 5) rfl
                  have f5 := HB1.out.free 5
                  have r6 := HB1.out.cell (i := 6) rfl
                  have f6 := HB1.out.free 6
                  have r7 := HB1.out.cell (i := 7) rfl
                  have f7 := HB1.out.free 7
                  have r8 := HB1.out.cell (i := 8) rfl
                  have f8 := HB1.out.free 8
                  have r9 := HB1.out.cell (i := 9) rfl
                  have f9 := HB1.out.free 9
                  go_wp2_with fail
                  clear c0 c1 c2 c3 c4 c5 c6 c7 c8 c9 r0 r1 r2 r3 r4 r5 r6 r7 r8 r9 f0 f1 f2 f3 f4 f5 f6 f7 f8 f9
                  obtain ⟨hB, hm⟩ := put10 HB1.out (.int .i64 r.code) (.int .i64 r.dst) (.int .i64 r.a) (.int .i64 r.b) (.int .i64 r.c) (.int .i64 r.n) (.string ⟨r.op.toArray⟩) (.int .i64 r.label) (.string ⟨r.name.toArray⟩) (.slice ra rn rc)
                  have hmn := HM3W.out.trans' hm (fun k hk hl => by omega)
                  refine bodyPost_ret (v := .agg #[.int .i64 r.code, .int .i64 r.dst, .int .i64 r.a, .int .i64 r.b, .int .i64 r.c, .int .i64 r.n, .string ⟨r.op.toArray⟩, .int .i64 r.label, .string ⟨r.name.toArray⟩, .slice ra rn rc]) (results_cell_row (P := Tryd.prog) Tryd.results62 _ _ (W.heap.size + 1) 44 _ (0, 0) _ rfl hB Tryd.underlying44 rfl (by kernel_rfl)) rfl ?_
                  rw [HT.out]
                  exact ⟨_, rfl, ⟨ra, rc, by rw [← HRN.out]; rfl, (by rw [← HRN.out]; exact (HRV.out.mods (T := fun k => k < W3.heap.size) (HM13.out.mono fun k _ e => by have := HW3S.out; omega) (fun _ _ e => e)).mods (T := fun k => k < W.heap.size) (hm.mono fun k _ e => by have := HW3S.out; omega) (fun k _ e => by have := HW3S.out; omega))⟩, hmn⟩
              · have ga1 : (a == 1) = false := by simp [ha1]
                have hT : T = r := by rw [HTU.out]; unfold turnP; simp [h3, ha, ha1]
                have HT := Lib.hid hT
                clear hT
                clear h2 h5 h3 ha ha1
                go_upto_region 16 with (fail)
                clear c0 c6
                have c0 := HB5.out.cell (i := 0) rfl
                have c1 := HB5.out.cell (i := 1) rfl
                have c2 := HB5.out.cell (i := 2) rfl
                have c3 := HB5.out.cell (i := 3) rfl
                have c4 := HB5.out.cell (i := 4) rfl
                have c5 := HB5.out.cell (i := 5) rfl
                have c6 := HB5.out.cell (i := 6) rfl
                have c7 := HB5.out.cell (i := 7) rfl
                have c8 := HB5.out.cell (i := 8) rfl
                have c9 := HB5.out.cell (i := 9) rfl
                have r0 := HB1.out.cell (i := 0) rfl
                have f0 := HB1.out.free 0
                have r1 := HB1.out.cell (i := 1) rfl
                have f1 := HB1.out.free 1
                have r2 := HB1.out.cell (i := 2) rfl
                have f2 := HB1.out.free 2
                have r3 := HB1.out.cell (i := 3) rfl
                have f3 := HB1.out.free 3
                have r4 := HB1.out.cell (i := 4) rfl
                have f4 := HB1.out.free 4
                have r5 := HB1.out.cell (i := 5) rfl
                have f5 := HB1.out.free 5
                have r6 := HB1.out.cell (i := 6) rfl
                have f6 := HB1.out.free 6
                have r7 := HB1.out.cell (i := 7) rfl
                have f7 := HB1.out.free 7
                have r8 := HB1.out.cell (i := 8) rfl
                have f8 := HB1.out.free 8
                have r9 := HB1.out.cell (i := 9) rfl
                have f9 := HB1.out.free 9
                go_wp2_with fail
                clear c0 c1 c2 c3 c4 c5 c6 c7 c8 c9 r0 r1 r2 r3 r4 r5 r6 r7 r8 r9 f0 f1 f2 f3 f4 f5 f6 f7 f8 f9
                obtain ⟨hB, hm⟩ := put10 HB1.out (.int .i64 r.code) (.int .i64 r.dst) (.int .i64 r.a) (.int .i64 r.b) (.int .i64 r.c) (.int .i64 r.n) (.string ⟨r.op.toArray⟩) (.int .i64 r.label) (.string ⟨r.name.toArray⟩) (.slice ra rn rc)
                have hmn := HM3W.out.trans' hm (fun k hk hl => by omega)
                refine bodyPost_ret (v := .agg #[.int .i64 r.code, .int .i64 r.dst, .int .i64 r.a, .int .i64 r.b, .int .i64 r.c, .int .i64 r.n, .string ⟨r.op.toArray⟩, .int .i64 r.label, .string ⟨r.name.toArray⟩, .slice ra rn rc]) (results_cell_row (P := Tryd.prog) Tryd.results62 _ _ (W.heap.size + 1) 44 _ (0, 0) _ rfl hB Tryd.underlying44 rfl (by kernel_rfl)) rfl ?_
                rw [HT.out]
                exact ⟨_, rfl, ⟨ra, rc, by rw [← HRN.out]; rfl, (by rw [← HRN.out]; exact (HRV.out.mods (T := fun k => k < W3.heap.size) (HM13.out.mono fun k _ e => by have := HW3S.out; omega) (fun _ _ e => e)).mods (T := fun k => k < W.heap.size) (hm.mono fun k _ e => by have := HW3S.out; omega) (fun k _ e => by have := HW3S.out; omega))⟩, hmn⟩
          | some b =>
            obtain ⟨k, y, hky⟩ : ∃ k y, bothP r.op a b = (k, y) := ⟨_, _, rfl⟩
            have HBC := Lib.hid (mboth_any r.op a b w5)
            rw [hky] at HBC
            unfold pairV str at HBC
            by_cases hy : y = 0
            · subst hy
              have hT : T = constP r.dst k := by rw [HTU.out]; unfold turnP; simp [h3, hky]
              have HT := Lib.hid hT
              clear hT
              clear h2 h5 h3 hky
              go_upto_region 11 with (go_at_call 8; refine HBC.out.mono ?_; rintro e w ⟨rfl, rfl⟩)
              clear c0 c6
              have c1 := HB5.out.cell (i := 1) rfl
              have r0 := HB1.out.cell (i := 0) rfl
              have f0 := HB1.out.free 0
              have r1 := HB1.out.cell (i := 1) rfl
              have f1 := HB1.out.free 1
              have r2 := HB1.out.cell (i := 2) rfl
              have f2 := HB1.out.free 2
              have r3 := HB1.out.cell (i := 3) rfl
              have f3 := HB1.out.free 3
              have r4 := HB1.out.cell (i := 4) rfl
              have f4 := HB1.out.free 4
              have r5 := HB1.out.cell (i := 5) rfl
              have f5 := HB1.out.free 5
              have r6 := HB1.out.cell (i := 6) rfl
              have f6 := HB1.out.free 6
              have r7 := HB1.out.cell (i := 7) rfl
              have f7 := HB1.out.free 7
              have r8 := HB1.out.cell (i := 8) rfl
              have f8 := HB1.out.free 8
              have r9 := HB1.out.cell (i := 9) rfl
              have f9 := HB1.out.free 9
              go_wp2_with fail
              clear c1 r0 r1 r2 r3 r4 r5 r6 r7 r8 r9 f0 f1 f2 f3 f4 f5 f6 f7 f8 f9
              obtain ⟨hB, hm⟩ := put10 HB1.out (.int .i64 1) (.int .i64 r.dst) (.int .i64 0) (.int .i64 0) (.int .i64 0) (.int .i64 k) (.string ⟨#[]⟩) (.int .i64 0) (.string ⟨#[]⟩) (.slice none 0 0)
              have hmn := HM3W.out.trans' hm (fun k hk hl => by omega)
              refine bodyPost_ret (v := .agg #[.int .i64 1, .int .i64 r.dst, .int .i64 0, .int .i64 0, .int .i64 0, .int .i64 k, .string ⟨#[]⟩, .int .i64 0, .string ⟨#[]⟩, .slice none 0 0]) (results_cell_row (P := Tryd.prog) Tryd.results62 _ _ (W.heap.size + 1) 44 _ (0, 0) _ rfl hB Tryd.underlying44 rfl (by kernel_rfl)) rfl ?_
              rw [HT.out]
              exact ⟨_, rfl, ⟨none, 0, rfl, ints_nil _ _⟩, hmn⟩
            · have gy : (y == 0) = false := by simp [hy]
              have hT : T = r := by rw [HTU.out]; unfold turnP; simp [h3, hky, hy]
              have HT := Lib.hid hT
              clear hT
              clear h2 h5 h3 hky hy
              go_upto_region 16 with (go_at_call 8; refine HBC.out.mono ?_; rintro e w ⟨rfl, rfl⟩)
              clear c0 c6
              have c0 := HB5.out.cell (i := 0) rfl
              have c1 := HB5.out.cell (i := 1) rfl
              have c2 := HB5.out.cell (i := 2) rfl
              have c3 := HB5.out.cell (i := 3) rfl
              have c4 := HB5.out.cell (i := 4) rfl
              have c5 := HB5.out.cell (i := 5) rfl
              have c6 := HB5.out.cell (i := 6) rfl
              have c7 := HB5.out.cell (i := 7) rfl
              have c8 := HB5.out.cell (i := 8) rfl
              have c9 := HB5.out.cell (i := 9) rfl
              have r0 := HB1.out.cell (i := 0) rfl
              have f0 := HB1.out.free 0
              have r1 := HB1.out.cell (i := 1) rfl
              have f1 := HB1.out.free 1
              have r2 := HB1.out.cell (i := 2) rfl
              have f2 := HB1.out.free 2
              have r3 := HB1.out.cell (i := 3) rfl
              have f3 := HB1.out.free 3
              have r4 := HB1.out.cell (i := 4) rfl
              have f4 := HB1.out.free 4
              have r5 := HB1.out.cell (i := 5) rfl
              have f5 := HB1.out.free 5
              have r6 := HB1.out.cell (i := 6) rfl
              have f6 := HB1.out.free 6
              have r7 := HB1.out.cell (i := 7) rfl
              have f7 := HB1.out.free 7
              have r8 := HB1.out.cell (i := 8) rfl
              have f8 := HB1.out.free 8
              have r9 := HB1.out.cell (i := 9) rfl
              have f9 := HB1.out.free 9
              go_wp2_with fail
              clear c0 c1 c2 c3 c4 c5 c6 c7 c8 c9 r0 r1 r2 r3 r4 r5 r6 r7 r8 r9 f0 f1 f2 f3 f4 f5 f6 f7 f8 f9
              obtain ⟨hB, hm⟩ := put10 HB1.out (.int .i64 r.code) (.int .i64 r.dst) (.int .i64 r.a) (.int .i64 r.b) (.int .i64 r.c) (.int .i64 r.n) (.string ⟨r.op.toArray⟩) (.int .i64 r.label) (.string ⟨r.name.toArray⟩) (.slice ra rn rc)
              have hmn := HM3W.out.trans' hm (fun k hk hl => by omega)
              refine bodyPost_ret (v := .agg #[.int .i64 r.code, .int .i64 r.dst, .int .i64 r.a, .int .i64 r.b, .int .i64 r.c, .int .i64 r.n, .string ⟨r.op.toArray⟩, .int .i64 r.label, .string ⟨r.name.toArray⟩, .slice ra rn rc]) (results_cell_row (P := Tryd.prog) Tryd.results62 _ _ (W.heap.size + 1) 44 _ (0, 0) _ rfl hB Tryd.underlying44 rfl (by kernel_rfl)) rfl ?_
              rw [HT.out]
              exact ⟨_, rfl, ⟨ra, rc, by rw [← HRN.out]; rfl, (by rw [← HRN.out]; exact (HRV.out.mods (T := fun k => k < W3.heap.size) (HM13.out.mono fun k _ e => by have := HW3S.out; omega) (fun _ _ e => e)).mods (T := fun k => k < W.heap.size) (hm.mono fun k _ e => by have := HW3S.out; omega) (fun k _ e => by have := HW3S.out; omega))⟩, hmn⟩
      · have g3 : (r.code == 3) = false := by simp [h3]
        have hT : T = r := by rw [HTU.out]; unfold turnP; simp [h2, h5, h3]
        have HT := Lib.hid hT
        clear hT
        clear h2 h5 h3
        go_upto_region 16 with (fail)
        clear c0 c6
        have c0 := HB5.out.cell (i := 0) rfl
        have c1 := HB5.out.cell (i := 1) rfl
        have c2 := HB5.out.cell (i := 2) rfl
        have c3 := HB5.out.cell (i := 3) rfl
        have c4 := HB5.out.cell (i := 4) rfl
        have c5 := HB5.out.cell (i := 5) rfl
        have c6 := HB5.out.cell (i := 6) rfl
        have c7 := HB5.out.cell (i := 7) rfl
        have c8 := HB5.out.cell (i := 8) rfl
        have c9 := HB5.out.cell (i := 9) rfl
        have r0 := HB1.out.cell (i := 0) rfl
        have f0 := HB1.out.free 0
        have r1 := HB1.out.cell (i := 1) rfl
        have f1 := HB1.out.free 1
        have r2 := HB1.out.cell (i := 2) rfl
        have f2 := HB1.out.free 2
        have r3 := HB1.out.cell (i := 3) rfl
        have f3 := HB1.out.free 3
        have r4 := HB1.out.cell (i := 4) rfl
        have f4 := HB1.out.free 4
        have r5 := HB1.out.cell (i := 5) rfl
        have f5 := HB1.out.free 5
        have r6 := HB1.out.cell (i := 6) rfl
        have f6 := HB1.out.free 6
        have r7 := HB1.out.cell (i := 7) rfl
        have f7 := HB1.out.free 7
        have r8 := HB1.out.cell (i := 8) rfl
        have f8 := HB1.out.free 8
        have r9 := HB1.out.cell (i := 9) rfl
        have f9 := HB1.out.free 9
        go_wp2_with fail
        clear c0 c1 c2 c3 c4 c5 c6 c7 c8 c9 r0 r1 r2 r3 r4 r5 r6 r7 r8 r9 f0 f1 f2 f3 f4 f5 f6 f7 f8 f9
        obtain ⟨hB, hm⟩ := put10 HB1.out (.int .i64 r.code) (.int .i64 r.dst) (.int .i64 r.a) (.int .i64 r.b) (.int .i64 r.c) (.int .i64 r.n) (.string ⟨r.op.toArray⟩) (.int .i64 r.label) (.string ⟨r.name.toArray⟩) (.slice ra rn rc)
        have hmn := HM3W.out.trans' hm (fun k hk hl => by omega)
        refine bodyPost_ret (v := .agg #[.int .i64 r.code, .int .i64 r.dst, .int .i64 r.a, .int .i64 r.b, .int .i64 r.c, .int .i64 r.n, .string ⟨r.op.toArray⟩, .int .i64 r.label, .string ⟨r.name.toArray⟩, .slice ra rn rc]) (results_cell_row (P := Tryd.prog) Tryd.results62 _ _ (W.heap.size + 1) 44 _ (0, 0) _ rfl hB Tryd.underlying44 rfl (by kernel_rfl)) rfl ?_
        rw [HT.out]
        exact ⟨_, rfl, ⟨ra, rc, by rw [← HRN.out]; rfl, (by rw [← HRN.out]; exact (HRV.out.mods (T := fun k => k < W3.heap.size) (HM13.out.mono fun k _ e => by have := HW3S.out; omega) (fun _ _ e => e)).mods (T := fun k => k < W.heap.size) (hm.mono fun k _ e => by have := HW3S.out; omega) (fun k _ e => by have := HW3S.out; omega))⟩, hmn⟩
end Go.Proofs.YtoajcbfejplfbaaDoor.MidP

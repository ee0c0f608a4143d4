/- keep.MachinePieces walked. Conditions: the table of forms lies as the program lays it; the arguments read as lists. -/
import Derived.Test.YtgeajgdddjjjnaaDoorKeepDriven
import Derived.Test.YtgeajgdddjjjnaaDoorMachLaws
import Derived.Test.YtgeajgdddjjjnaaDoorMachDoHead
namespace Go.Proofs.YtgeajgdddjjjnaaDoor.MachP
open Go.RowKit Go.Proofs.YtgeajgdddjjjnaaDoor.Wo Go.Proofs.YtgeajgdddjjjnaaDoor.WordP
set_option linter.unusedVariables false
set_option linter.unusedSimpArgs false

set_option maxHeartbeats 400000 in
theorem pieces_long (a0 a1 : Option Addr) (n0 c0 n1 c1 : Nat) (a b : Int) (W : World) (h0 : n0 ≤ maxLen) (h1 : n1 ≤ maxLen) (h : 60 < n0 ∨ 20 < n1) :
    Calls Tryd.prog 6 #[.slice a0 n0 c0, .slice a1 n1 c1, .int .i64 a, .int .i64 b] W fun e W' => e = .returned (.bool true) ∧ Mods None W W' := by
  unfold maxLen at h0 h1
  by_cases h2 : 60 < n0
  · go_enter Tryd.func6, Tryd.ntmps6
    go_wp2
    go_ret
    exact ⟨rfl, Mods.refl _ _⟩
  · have h3 : 20 < n1 := by omega
    clear h
    go_enter Tryd.func6, Tryd.ntmps6
    go_wp2
    go_ret
    exact ⟨rfl, Mods.refl _ _⟩
theorem words_mods {W w : World} (hm : Mods None W w) {v : Value} {l : List Int} (h : WordsAt W v l) : WordsAt w v l := by
  obtain ⟨p, n, c, rfl, h1, h2, h3, h4⟩ := h
  refine ⟨p, n, c, rfl, h1, h2, h3, fun i x hx => ?_⟩
  obtain ⟨hb, g, o, rfl, hc⟩ := h4 i x hx
  exact ⟨hb, g, o, rfl, hm.cellOf hc (fun f => f)⟩
theorem ints_prefix {W : World} {a : Option Addr} {n c : Nat} {l r : List Int} (h : IntsAt W (.slice a n c) (l ++ r)) : IntsAt W (.slice a l.length c) l := by
  obtain ⟨p, n', c', he, h1, h2, h3, h4⟩ := h
  simp only [Value.slice.injEq] at he
  obtain ⟨rfl, rfl, rfl⟩ := he
  rw [List.length_append] at h1
  refine ⟨_, _, _, rfl, rfl, by omega, h3, fun i x hx => h4 i x ?_⟩
  rw [List.getElem?_append_left ?_]
  · exact hx
  · exact (List.getElem?_eq_some_iff.1 hx).1
theorem form_len {W : World} {B : Nat} {v : Value} {n : Nat} {xs : List Value} (h : W.ownsRow B 2 1 v n xs) : ∃ a c, v = .slice a n c := by
  rcases h.2 with ⟨hv, h0⟩ | ⟨g, cap, cur, hv, _⟩
  · exact ⟨none, 0, by rw [h0]; exact hv⟩
  · exact ⟨_, _, hv⟩
theorem quiet_pc {W : World} {b : Nat} {O : Nat → Prop} {M : Mac} (h : Mach W b O M) (n : Nat) :
    Calls Tryd.prog 20 #[.pointer (some ⟨b, 0, none⟩)] (W.drewN n) fun e w'' => e = .returned (.int .i64 M.pc) ∧ ∃ m, w'' = W.drewN m :=
  (pc_any b O M (W.drewN n) (h.mods ((Mods.refl None W).drewN n) (fun _ _ f => f))).mono fun _ _ ⟨he, hw⟩ => ⟨he, n, hw.symm⟩
theorem quiet_same {W : World} {v1 v2 : Value} {l : List Int} (h1 : IntsAt W v1 l) (h2 : IntsAt W v2 l) (n : Nat) :
    Calls Tryd.prog 19 #[v1, v2] (W.drewN n) fun e w'' => e = .returned (.bool true) ∧ ∃ m, w'' = W.drewN m :=
  (equal_quiet v1 v2 l l (W.drewN n) (h1.mods ((Mods.refl None W).drewN n) (fun _ _ f => f)) (h2.mods ((Mods.refl None W).drewN n) (fun _ _ f => f))).mono fun _ _ ⟨he, d, hw⟩ => ⟨by rw [he]; simp, n + d, by rw [hw, World.drewN_drewN]⟩
theorem own_cap {W : World} {B : Nat} {a : Option Addr} {n c : Nat} {xs : List Value} (h : W.ownsRow B 2 1 (.slice a n c) n xs) : n ≤ c := by
  rcases h.2 with ⟨hv, h0⟩ | ⟨g, cap, cur, hv, hg, hh, hn, _⟩
  · omega
  · simp only [Value.slice.injEq] at hv
    omega
theorem Mach.many {W : World} {b : Nat} {O : Nat → Prop} {M : Mac} (h : Mach W b O M) : M.out.length ≤ 200 := by
  obtain ⟨bm, inv, outv, h1, h2⟩ := h; exact h1.many
theorem field_way (x y : Int) (a : Option Addr) (n c : Nat) (w : World) : (Instr.field 47 (.agg #[.int .i64 x, .int .i64 y, .slice a n c]) 0).run Tryd.prog w = .ok (.int .i64 x) w := by kernel_rfl
theorem end3 (W : World) (x y : Int) (v : Value) : Blk (W.alloc (.cells #[.int .i64 x, .int .i64 y, v] 47)) W.heap.size [.int .i64 x, .int .i64 y, v] 47 := Blk.new W _ _
set_option maxRecDepth 100000 in
set_option maxHeartbeats 4000000 in
theorem pieces_walk (v0 v1 : Value) (ws l : List Int) (a b : Int) (W : World) (hF : Forms W) (hw : WordsAt W v0 ws) (hl : IntsAt W v1 l) (hnil : ∀ n c, v1 = .slice none n c → c = 0) (hws : ws.length ≤ 60) (hll : l.length ≤ 20) :
    Calls Tryd.prog 6 #[v0, v1, .int .i64 a, .int .i64 b] W fun e W' => e = .returned (.bool true) ∧ Mods None W W' := by
  have HF := Lib.hid hF
  have HW := Lib.hid hw
  have HL := Lib.hid hl
  have HNIL := Lib.hid hnil
  obtain ⟨a0, n0, c0, rfl, hn0, hnc0, hcm0, _⟩ := hw
  obtain ⟨a1, n1, c1, rfl, hn1, hnc1, hcm1, _⟩ := hl
  have h60 : n0 ≤ 60 := by omega
  have h20 : n1 ≤ 20 := by omega
  unfold maxLen at hcm0 hcm1
  clear hF hnil hn0 hn1
  go_enter Tryd.func6, Tryd.ntmps6
  go_wp2_with fail
  refine (driven_any W HF.out).mono ?_
  rintro e w1 ⟨rfl, hm1⟩
  have HM1 := Lib.hid hm1
  have HF1 := Lib.hid (forms_mods HF.out hm1 (fun f => f))
  have h0s : Hid (0 < w1.heap.size) := Lib.hid (zero_lt (HF1.out 1 (by decide) (by decide)).c0)
  have HW1 : Hid (WordsAt w1 (.slice a0 n0 c0) ws) := Lib.hid (words_mods hm1 HW.out)
  have HL1 := Lib.hid (HL.out.mods hm1 (fun _ _ f => f))
  clear hm1
  go_wp2_with fail
  refine (new_made (.slice a0 n0 c0) (.slice a1 n1 c1) ws l 512 _ (by decide) (by decide) (by decide) HW1.out (by omega) HL1.out (by omega) HNIL.out).mono ?_
  rintro e w2 ⟨b1, rfl, O1, hmach1, hO1, hm2⟩
  have HMC1 := Lib.hid hmach1
  have HO1 := Lib.hid hO1
  have HM2 := Lib.hid hm2
  clear hmach1 hO1 hm2
  go_wp2_with fail
  refine (new_made (.slice a0 n0 c0) (.slice a1 n1 c1) ws l 512 _ (by decide) (by decide) (by decide) (words_mods HM2.out HW1.out) (by omega) (HL1.out.mods HM2.out (fun _ _ f => f)) (by omega) HNIL.out).mono ?_
  rintro e w3 ⟨b2, rfl, O2, hmach2, hO2, hm3⟩
  have HMC2 := Lib.hid hmach2
  have HO2 := Lib.hid hO2
  have HM3 := Lib.hid hm3
  clear hmach2 hO2 hm3
  go_wp2_with fail
  have hO1lt := HMC1.out.lt
  have hO2lt := HMC2.out.lt
  have hD12 : Hid (∀ k, O2 k → ¬ O1 k) := Lib.hid (fun k h2 h1 => by have := hO1lt k h1; have := HO2.out k h2; omega)
  have HF3 := Lib.hid (forms_mods (forms_mods HF1.out HM2.out (fun f => f)) HM3.out (fun f => f))
  have HA1 := Lib.hid (HMC1.out.mods HM3.out (fun _ _ f => f))
  have h01 : Hid (¬ O1 0) := Lib.hid (fun f => by have := HO1.out 0 f; have := h0s.out; omega)
  have h02 : Hid (¬ O2 0) := Lib.hid (fun f => by have := HO2.out 0 f; have := HM2.out.size; have := h0s.out; omega)
  have HLT2 : Hid (∀ k, O2 k → k < w3.heap.size) := Lib.hid hO2lt
  have HALL3 : Hid (Mods None W w3) := Lib.hid ((HM1.out.trans HM2.out).trans HM3.out)
  have HGE1 : Hid (∀ k, O1 k → W.heap.size ≤ k) := Lib.hid (fun k hk => by have := HO1.out k hk; have := HM1.out.size; omega)
  have HGE2 : Hid (∀ k, O2 k → W.heap.size ≤ k) := Lib.hid (fun k hk => by have := HO2.out k hk; have := HM1.out.size; have := HM2.out.size; omega)
  have HWS : Hid (W.heap.size ≤ w3.heap.size) := Lib.hid HALL3.out.size
  clear hO1lt hO2lt HMC1 HO1 HO2 HM1 HM2 HM3 HF1 HW1 HL1 HL HW HNIL
  obtain ⟨A, hA⟩ := Int.eq_ofNat_of_zero_le (pkn_in a 60 (by decide)).1
  have hA60 : A < 60 := by have := (pkn_in a 60 (by decide)).2; omega
  obtain ⟨B, hB⟩ := Int.eq_ofNat_of_zero_le (pkn_in b 60 (by decide)).1
  have hB60 : B < 60 := by have := (pkn_in b 60 (by decide)).2; omega
  have HA := Lib.hid hA
  have HB := Lib.hid hB
  clear hA hB
  refine (pick_any a 60 w3 (by decide) (by decide)).mono ?_
  rintro e w' ⟨rfl, rfl⟩
  rw [HA.out]
  go_wp2_with fail
  refine (pick_any b 60 w3 (by decide) (by decide)).mono ?_
  rintro e w' ⟨rfl, rfl⟩
  rw [HB.out]
  go_wp2_with fail
  obtain ⟨M0, hM0⟩ : ∃ M0, M0 = Mac.new ws 512 l := ⟨_, rfl⟩
  rw [← hM0] at HA1 HMC2
  have HR0 : Hid (M0.Ok ∧ M0.reg 0 = 0) := Lib.hid ⟨HMC2.out.ok, by rw [hM0]; rfl⟩
  clear hM0
  refine (run_any b1 O1 M0 w3 HA1.out HF3.out h01.out A (by omega)).mono ?_
  rintro e w4 ⟨sv1, rfl, hsv1, O3, hm4, hO4, hmd4, hns1⟩
  rw [Int.toNat_natCast] at hsv1 hm4 ⊢
  obtain ⟨M1, hM1⟩ : ∃ M1, M1 = M0.run A := ⟨_, rfl⟩
  rw [← hM1] at hsv1 hm4 ⊢
  have HM1 := Lib.hid hM1
  clear hM1
  obtain ⟨sa1, sc1, rfl⟩ := form_len hsv1
  have HSV1 := Lib.hid hsv1
  have HMC1 := Lib.hid hm4
  have HO4 := Lib.hid hO4
  have HMD4 := Lib.hid hmd4
  have HNS1 := Lib.hid hns1
  have HLT3 := Lib.hid hm4.lt
  clear hsv1 hm4 hO4 hmd4 hns1 HA1
  go_wp2_with fail
  obtain ⟨w5, hw5⟩ : ∃ w5, w5 = w4.alloc (.cells #[.int .i64 M1.endWay, .int .i64 M1.code, .slice sa1 M1.out.length sc1] 47) := ⟨_, rfl⟩
  have HX5 : Hid (Blk w5 w4.heap.size _ _) := Lib.hid (by rw [hw5]; exact end3 w4 _ _ _)
  have HM5 : Hid (Mods None w4 w5) := Lib.hid (by rw [hw5]; exact (Mods.refl _ _).alloc _)
  have HS5 : Hid (w5.heap.size = w4.heap.size + 1) := Lib.hid (by rw [hw5]; simp)
  rw [← hw5]
  clear hw5
  have HF5 := Lib.hid (forms_mods (forms_mods HF3.out HMD4.out h01.out) HM5.out (fun f => f))
  have h03 : Hid (¬ O3 0) := Lib.hid (fun f => by
    rcases HO4.out 0 f with h | h
    · exact h01.out h
    · have := HWS.out; have := (HF.out 1 (by decide) (by decide)).c0; have := zero_lt this; omega)
  refine (run_any b1 O3 M1 w5 (HMC1.out.mods HM5.out (fun _ _ f => f)) HF5.out h03.out B (by omega)).mono ?_
  rintro e w6 ⟨sv2, rfl, hsv2, O5, hm6, hO6, hmd6, hns2⟩
  rw [Int.toNat_natCast] at hsv2 hm6 ⊢
  obtain ⟨M2, hM2⟩ : ∃ M2, M2 = M1.run B := ⟨_, rfl⟩
  rw [← hM2] at hsv2 hm6 ⊢
  have HM2 := Lib.hid hM2
  clear hM2
  obtain ⟨sa2, sc2, rfl⟩ := form_len hsv2
  have HSV2 := Lib.hid hsv2
  have HMC1' := Lib.hid hm6
  have HO6 := Lib.hid hO6
  have HMD6 := Lib.hid hmd6
  have HLT5 := Lib.hid hm6.lt
  clear hsv2 hm6 hO6 hmd6 hns2
  go_wp2_with fail
  obtain ⟨w7, hw7⟩ : ∃ w7, w7 = w6.alloc (.cells #[.int .i64 M2.endWay, .int .i64 M2.code, .slice sa2 M2.out.length sc2] 47) := ⟨_, rfl⟩
  have HY7 : Hid (Blk w7 w6.heap.size _ _) := Lib.hid (by rw [hw7]; exact end3 w6 _ _ _)
  have HM7 : Hid (Mods None w6 w7) := Lib.hid (by rw [hw7]; exact (Mods.refl _ _).alloc _)
  have HS7 : Hid (w7.heap.size = w6.heap.size + 1) := Lib.hid (by rw [hw7]; simp)
  rw [← hw7]
  clear hw7
  have hd32 : Hid (∀ k, O2 k → ¬ O3 k) := Lib.hid (fun k h2 h3 => by
    rcases HO4.out k h3 with h | h
    · exact hD12.out k h2 h
    · have := HLT2.out k h2; omega)
  have HMA2 : Hid (Mach w7 b2 O2 M0) := Lib.hid ((((HMC2.out.mods HMD4.out hD12.out).mods HM5.out (fun _ _ f => f)).mods HMD6.out hd32.out).mods HM7.out (fun _ _ f => f))
  have HF7 := Lib.hid (forms_mods (forms_mods HF5.out HMD6.out h03.out) HM7.out (fun f => f))
  refine (run_any b2 O2 M0 w7 HMA2.out HF7.out h02.out (A + B) (by omega)).mono ?_
  rintro e w8 ⟨sv3, rfl, hsv3, O7, hm8, hO8, hmd8, hns3⟩
  have eAB : ((A : Int) + (B : Int)).toNat = A + B := by omega
  rw [eAB] at hsv3 hm8 ⊢
  have HN : M0.run (A + B) = M2 := by rw [HM2.out, HM1.out, run_add]
  rw [HN] at hsv3 hm8 ⊢
  clear eAB HN
  obtain ⟨sa3, sc3, rfl⟩ := form_len hsv3
  have HSV3 := Lib.hid hsv3
  have HMC2' := Lib.hid hm8
  have HMD8 := Lib.hid hmd8
  have HO8 := Lib.hid hO8
  clear hsv3 hm8 hmd8 hO8 hns3
  go_wp2_with fail
  obtain ⟨w9, hw9⟩ : ∃ w9, w9 = w8.alloc (.cells #[.int .i64 M2.endWay, .int .i64 M2.code, .slice sa3 M2.out.length sc3] 47) := ⟨_, rfl⟩
  have HZ9 : Hid (Blk w9 w8.heap.size _ _) := Lib.hid (by rw [hw9]; exact end3 w8 _ _ _)
  have HM9 : Hid (Mods None w8 w9) := Lib.hid (by rw [hw9]; exact (Mods.refl _ _).alloc _)
  rw [← hw9]
  clear hw9
  have z34 := HMD4.out.size
  have z56 := HMD6.out.size
  have z78 := HMD8.out.size
  have hO2w : ∀ k, O2 k → k < w3.heap.size := HLT2.out
  have z5 := HS5.out
  have z7 := HS7.out
  have hx9 : Blk w9 w4.heap.size _ _ := (((HX5.out.mods HMD6.out (fun h => by have := HLT3.out _ h; omega)).mods HM7.out (fun f => f)).mods HMD8.out (fun h => by have := hO2w _ h; omega)).mods HM9.out (fun f => f)
  have hy9 : Blk w9 w6.heap.size _ _ := (HY7.out.mods HMD8.out (fun h => by have := hO2w _ h; omega)).mods HM9.out (fun f => f)
  have x2 : w9.cell? ⟨w4.heap.size, 2, none⟩ = some (.slice sa1 M1.out.length sc1) := hx9.cell rfl
  have y0 : w9.cell? ⟨w6.heap.size, 0, none⟩ = some (.int .i64 M2.endWay) := hy9.cell rfl
  have y1 : w9.cell? ⟨w6.heap.size, 1, none⟩ = some (.int .i64 M2.code) := hy9.cell rfl
  have y2 : w9.cell? ⟨w6.heap.size, 2, none⟩ = some (.slice sa2 M2.out.length sc2) := hy9.cell rfl
  have c0 : w9.cell? ⟨w8.heap.size, 0, none⟩ = some (.int .i64 M2.endWay) := HZ9.out.cell rfl
  have c1 : w9.cell? ⟨w8.heap.size, 1, none⟩ = some (.int .i64 M2.code) := HZ9.out.cell rfl
  have c2 : w9.cell? ⟨w8.heap.size, 2, none⟩ = some (.slice sa3 M2.out.length sc3) := HZ9.out.cell rfl
  have HY9 := Lib.hid hy9
  have hd52 : Hid (∀ k, O5 k → ¬ O2 k) := Lib.hid (fun k h5 h2 => by
    rcases HO6.out k h5 with h | h
    · exact hd32.out k h2 h
    · have := hO2w k h2; omega)
  have HI1 : Hid (IntsAt w9 (.slice sa1 M1.out.length sc1) M1.out) := Lib.hid (((((ints_own HSV1.out (by have := HMC1.out.many; omega)).mods HM5.out (fun _ _ f => f)).mods HMD6.out HNS1.out).mods HM7.out (fun _ _ f => f) |>.mods HMD8.out (fun k hk h2 => by have := HSV1.out.lt k hk; have := hO2w k h2; omega)).mods HM9.out (fun _ _ f => f))
  have HI2 : Hid (IntsAt w9 (.slice sa2 M2.out.length sc2) M2.out) := Lib.hid ((((ints_own HSV2.out (by have := HMC1'.out.many; omega)).mods HM7.out (fun _ _ f => f)).mods HMD8.out (fun k hk h2 => by have := HSV2.out.lt k hk; have := hO2w k h2; omega)).mods HM9.out (fun _ _ f => f))
  have HI3 : Hid (IntsAt w9 (.slice sa3 M2.out.length sc3) M2.out) := Lib.hid ((ints_own HSV3.out (by have := HMC1'.out.many; omega)).mods HM9.out (fun _ _ f => f))
  have HK1 : Hid (Mach w9 b1 O5 M2) := Lib.hid (((HMC1'.out.mods HM7.out (fun _ _ f => f)).mods HMD8.out hd52.out).mods HM9.out (fun _ _ f => f))
  have HK2 : Hid (Mach w9 b2 O7 M2) := Lib.hid (HMC2'.out.mods HM9.out (fun _ _ f => f))
  obtain ⟨r, hr⟩ : ∃ r, M2.out = M1.out ++ r := by rw [HM2.out]; exact out_run B M1
  have hlen : M1.out.length ≤ M2.out.length := by rw [hr, List.length_append]; omega
  have HI4 : Hid (IntsAt w9 (.slice sa2 M1.out.length sc2) M1.out) := Lib.hid (by have := HI2.out; rw [hr] at this; exact ints_prefix (n := (M1.out ++ r).length) this)
  have HF9 := Lib.hid (forms_mods (forms_mods HF7.out HMD8.out h02.out) HM9.out (fun f => f))
  have hcap : M2.out.length ≤ sc2 := own_cap HSV2.out
  have hmany : M2.out.length ≤ 200 := HMC1'.out.many
  have HALL : Hid (Mods None W w9) := Lib.hid (by
    have q4 := HALL3.out.trans' HMD4.out (fun k hk hlt => by have := HGE1.out k hk; omega)
    have q6 := (q4.trans HM5.out).trans' HMD6.out (fun k hk hlt => by
      rcases HO4.out k hk with h | h
      · have := HGE1.out k h; omega
      · have := HWS.out; omega)
    exact ((q6.trans HM7.out).trans' HMD8.out (fun k hk hlt => by have := HGE2.out k hk; omega)).trans HM9.out)
  have H05 : Hid (¬ O5 0) := Lib.hid (fun f => by
    rcases HO6.out 0 f with h | h
    · exact h03.out h
    · omega)
  have HGE5 : Hid (∀ k, O5 k → W.heap.size ≤ k) := Lib.hid (fun k hk => by
    have := HWS.out
    rcases HO6.out k hk with h | h
    · rcases HO4.out k h with h | h
      · have := HGE1.out k h; omega
      · omega
    · omega)
  have HRZ : Hid (M2.reg 0 = 0) := Lib.hid (by rw [HM2.out, HM1.out, ← run_add]; exact reg0_run _ HR0.out.1 HR0.out.2)
  clear hx9 hy9 hr
  go_cut [116] (fun v w => v = .bool false ∧ Hid (∃ d, w = w9.drewN d))
  case first =>
    cases sa2 with
    | none =>
      have e0 : M2.out.length = 0 ∧ sc2 = 0 := by
        rcases HSV2.out.2 with ⟨hv, h0⟩ | ⟨g, cap, cur, hv, _⟩
        · simp only [Value.slice.injEq] at hv; exact ⟨h0, hv.2.2⟩
        · simp at hv
      obtain ⟨e1, rfl⟩ := e0
      have e2 : M1.out.length = 0 := by omega
      have E1 := Lib.hid e1
      have E2 := Lib.hid e2
      rw [e1] at y2 c2 HI2 HI3
      rw [e2] at x2 HI1 HI4
      clear e1 e2 hlen hcap hmany
      go_quiet ((first | (go_at_call 19; first | with_reducible exact quiet_same HI2.out HI3.out _ | with_reducible exact quiet_same HI1.out HI4.out _) | (go_at_call 20; first | with_reducible exact quiet_pc HK1.out _ | with_reducible exact quiet_pc HK2.out _)))
      go_wp2_with fail
      go_meet
      case rel => exact ⟨rfl, Lib.hid (by first | exact ⟨_, rfl⟩ | assumption)⟩
    | some p2 =>
      have hcut : M1.out.length ≤ sc2 := by omega
      have hadd : p2.add 0 = p2 := by simp [Addr.add]
      go_quiet ((first | (go_at_call 19; first | with_reducible exact quiet_same HI2.out HI3.out _ | with_reducible exact quiet_same HI1.out HI4.out _) | (go_at_call 20; first | with_reducible exact quiet_pc HK1.out _ | with_reducible exact quiet_pc HK2.out _)))
      go_wp2_with fail
      go_meet
      case rel => exact ⟨congrArg Value.bool (decide_eq_false (by omega)), Lib.hid ⟨_, rfl⟩⟩
  case rest =>
    obtain ⟨rfl, hq⟩ := hcut
    have hm0 : Mods None w9 wc := by obtain ⟨d, rfl⟩ := hq.out; exact (Mods.refl _ _).drewN d
    have K1 := Lib.hid (HK1.out.mods hm0 (fun _ _ f => f))
    have K2 := Lib.hid (HK2.out.mods hm0 (fun _ _ f => f))
    have HFC := Lib.hid (forms_mods HF9.out hm0 (fun f => f))
    have HALLC := Lib.hid (HALL.out.trans hm0)
    have HYC := Lib.hid (HY9.out.mods hm0 (fun f => f))
    clear hm0 x2 y0 y1 y2 c0 c1 c2
    go_wp2_with fail
    go_loop [16] (fun v => ∃ i : Nat, i ≤ 32 ∧ v = .int .i64 i) (fun v => (32 - intOf v).toNat)
    case atStart => exact ⟨0, by omega, rfl⟩
    case round =>
      obtain ⟨i, hi, rfl⟩ := hrel
      by_cases hlt : (i : Int) < 32
      · go_wp2_with fail
        refine (reg_in b1 O5 M2 _ K1.out i (by omega) hlt).mono ?_
        rintro e w' ⟨rfl, rfl⟩
        go_wp2_with fail
        refine (reg_in b2 O7 M2 _ K2.out i (by omega) hlt).mono ?_
        rintro e w' ⟨rfl, rfl⟩
        go_wp2
        go_round
        case rel => exact ⟨i + 1, by omega, by go_num⟩
        case measure => simp [intOf]; omega
      · go_wp2_with fail
        refine (pc_any b1 O5 M2 _ K1.out).mono ?_
        rintro e w' ⟨rfl, rfl⟩
        go_wp2_with fail
        refine (end_any b1 O5 M2 _ K1.out).mono ?_
        rintro e w10 ⟨sv, rfl, hown, hm10⟩
        obtain ⟨va, vm, vc, rfl⟩ := form_any hown
        have hfld := field_way
        have K10 := Lib.hid (K1.out.mods hm10 (fun _ _ f => f))
        have HF10 := Lib.hid (forms_mods HFC.out hm10 (fun f => f))
        have HALL10 := Lib.hid (HALLC.out.trans hm10)
        have HY10 := Lib.hid (HYC.out.mods hm10 (fun f => f))
        clear hown hm10
        by_cases hway : M2.way = 0
        · have hwb : (M2.way != 0) = false := by simpa using hway
          clear hway
          go_wp2_with fail
          refine (reg_in b1 O5 M2 _ K10.out 0 (by decide) (by decide)).mono ?_
          rintro e w' ⟨rfl, rfl⟩
          rw [HRZ.out]
          go_wp2
          go_ret
          exact ⟨rfl, HALL10.out⟩
        · have hwb : (M2.way != 0) = true := by simpa using hway
          have HEW : Hid (M2.endWay = M2.way) := Lib.hid (by simp [Mac.endWay, hway])
          have HST : Hid (M2.step = M2) := Lib.hid (step_end hway)
          clear hway
          go_wp2_with fail
          refine (step_any b1 O5 M2 _ K10.out HF10.out H05.out).mono ?_
          rintro e w11 ⟨rfl, hwent⟩
          rw [HST.out] at hwent
          obtain ⟨O9, hm11, hO11, hmd11⟩ := hwent
          have K11 := Lib.hid hm11
          have hy11 := HY10.out.mods hmd11 (fun h => by have := HLT5.out _ h; omega)
          have y0 : w11.cell? ⟨w6.heap.size, 0, none⟩ = some (.int .i64 M2.way) := by rw [← HEW.out]; exact hy11.cell rfl
          have HALL11 : Hid (Mods None W w11) := Lib.hid (HALL10.out.trans' hmd11 (fun k hk hlt => by have := HGE5.out k hk; omega))
          clear hm11 hO11 hmd11 hy11
          go_wp2_with fail
          go_region_with ((first | (go_at_call 20; refine (pc_any b1 O9 M2 _ (K11.out.mods (S := None) (by repeat (first | with_reducible exact Mods.refl _ _ | with_reducible refine Mods.drew ?_)) (fun _ _ f => f))).mono ?_; rintro e w' ⟨rfl, rfl⟩) | (go_at_call 22; refine (end_any b1 O9 M2 _ (K11.out.mods (S := None) (by repeat (first | with_reducible exact Mods.refl _ _ | with_reducible refine Mods.drew ?_)) (fun _ _ f => f))).mono ?_; rintro e w12 ⟨sv2, rfl, hown2, hm12⟩; obtain ⟨va2, vm2, vc2, rfl⟩ := form_any hown2; have y0' := hm12.cellOf (p := ⟨w6.heap.size, 0, none⟩) y0 (fun f => f))))
          all_goals
            go_wp2_with fail
            refine (reg_in b1 O9 M2 _ ((K11.out.mods (S := None) (by repeat (first | with_reducible exact Mods.refl _ _ | with_reducible refine Mods.drew ?_)) (fun _ _ f => f)).mods hm12 (fun _ _ f => f)) 0 (by decide) (by decide)).mono ?_
            rintro e w' ⟨rfl, rfl⟩
            rw [HRZ.out]
            go_wp2
            go_ret
            exact ⟨rfl, Mods.trans (by repeat (first | with_reducible exact HALL11.out | with_reducible refine Mods.drew ?_)) hm12⟩
end Go.Proofs.YtgeajgdddjjjnaaDoor.MachP

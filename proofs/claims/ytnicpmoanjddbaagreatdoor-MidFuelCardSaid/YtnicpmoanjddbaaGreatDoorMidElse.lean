/- Which steps may be a program: all but copies and calls. Conditions: the tables lie as the program lays them. -/
import Derived.Test.YtnicpmoanjddbaaGreatDoorMidRight
namespace Go.Proofs.YtnicpmoanjddbaaGreatDoor.MidP
open Go.RowKit Go.Proofs.YtnicpmoanjddbaaGreatDoor.Wo Go.Maps Go.Proofs.YtnicpmoanjddbaaGreatDoor.TreeP
set_option linter.unusedVariables false
set_option linter.unusedSimpArgs false
/-- The table of places' types lies. -/
def FormsAt (W : World) : Prop := ∀ (c i : Nat), c ≤ 14 → i < 4 → W.cell? ⟨1, c * 4 + i, none⟩ = some (.int .i64 ((formsP c).getD i 0))
theorem FormsAt.mods {W W' : World} (h : FormsAt W) (hm : Mods None W W') : FormsAt W' := fun c i hc hi => hm.cellOf (h c i hc hi) (fun f => f)
/-- The table of marks of two lies. -/
def OpsAt (W : World) : Prop := ∀ (i : Nat) (x : List UInt8), opList[i]? = some x → W.cell? ⟨2, i, none⟩ = some (str x)
theorem OpsAt.mods {W W' : World} (h : OpsAt W) (hm : Mods None W W') : OpsAt W' := fun i x hx => hm.cellOf (h i x hx) (fun f => f)
theorem str_beq (a b : List UInt8) : ((⟨a.toArray⟩ : ByteArray) == ⟨b.toArray⟩) = (a == b) := by
  show (a.toArray == b.toArray) = (a == b)
  by_cases h : a = b
  · subst h; simp
  · rw [show (a == b) = false by simpa using h]
    simpa using h
set_option maxRecDepth 100000 in
set_option maxHeartbeats 1000000 in
theorem ops_index (x : List UInt8) (W : World) (hO : OpsAt W) :
    Calls Tryz.prog 111 #[.slice (some ⟨2, 0, none⟩) 11 11, str x] W fun e w => e = .returned (.int .i64 (optI (opList.findIdx? (fun y => x == y)))) ∧ W = w := by
  have HO := Lib.hid hO
  clear hO
  unfold str at *
  go_enter Tryz.func111, Tryz.ntmps111
  go_wp2_with fail
  go_loopw [5, 8] (fun _ iv wr => ∃ i : Nat, i ≤ 11 ∧ iv = .int .i64 i ∧ Hid ((opList.take i).findIdx? (fun y => x == y) = none) ∧ W = wr) (fun _ iv _ => (11 - intOf iv).toNat)
  case atStart => exact ⟨0, Nat.zero_le _, rfl, Lib.hid (by simp), rfl⟩
  case round =>
    obtain ⟨i, hi, rfl, HI, rfl⟩ := hrel
    by_cases hlt : i < 11
    · have hil : i < opList.length := hlt
      obtain ⟨z, hz⟩ : ∃ z, opList[i]? = some z := ⟨opList[i]'hil, List.getElem?_eq_getElem _⟩
      have c0 := HO.out i z hz
      unfold str at c0
      have hpi : (i : Int) < 11 := by omega
      have HT := Lib.hid (findIdx_take HI.out hz)
      clear hz hil
      by_cases hxz : x = z
      · subst hxz
        have HT2 : Hid (opList.findIdx? (fun y => x == y) = some i) := Lib.hid (findIdx_more (i := i + 1) (by rw [HT.out]; simp))
        go_wp2_with fail
        go_ret
        rw [HT2.out]
        exact ⟨rfl, rfl⟩
      · have hb1 : (x == z) = false := by simpa using hxz
        have hbz : ((⟨x.toArray⟩ : ByteArray) == ⟨z.toArray⟩) = false := by rw [str_beq, hb1]
        have HT2 : Hid ((opList.take (i + 1)).findIdx? (fun y => x == y) = none) := Lib.hid (by rw [HT.out, hb1]; rfl)
        go_wp2_with fail
        exact ⟨⟨i + 1, by omega, by go_num, HT2, trivial⟩, by simp [intOf]; omega⟩
    · obtain rfl : i = 11 := by omega
      have HF : Hid (opList.findIdx? (fun y => x == y) = none) := Lib.hid HI.out
      go_wp2_with fail
      go_ret
      rw [HF.out]
      exact ⟨rfl, rfl⟩
set_option maxRecDepth 100000 in
theorem ops_has (x : List UInt8) (W : World) (hO : OpsAt W) :
    Calls Tryz.prog 88 #[.slice (some ⟨2, 0, none⟩) 11 11, str x] W fun e w => e = .returned (.bool (opList.contains x)) ∧ W = w := by
  have H := Lib.hid (ops_index x W hO)
  have hc : opList.contains x = opList.any (fun y => x == y) := by
    rw [Bool.eq_iff_iff]
    simp
  rw [hc, ← optI_some]
  clear hO hc
  generalize optI (opList.findIdx? (fun y => x == y)) = k at *
  unfold str at *
  go_enter Tryz.func88, Tryz.ntmps88
  go_wp2_with fail
  go_at_call 111
  refine H.out.mono ?_
  rintro e w1 ⟨rfl, rfl⟩
  go_wp2_with fail
  go_ret
  exact ⟨rfl, rfl⟩
/-- What is asked of the place at which a step's places begin. -/
def placeS (s : Stp) : Nat → Int
  | 0 => s.dst
  | 1 => s.a
  | 2 => s.b
  | _ => s.c
theorem rightB_else {L : List Fm} {f : Fm} {s : Stp} (h2 : s.code ≠ 2) (h7 : s.code ≠ 7) : rightB L f s = if s.code < 1 ∨ s.code > 14 then false else fitB f ((formsP s.code).getD 0 0) s.dst && fitB f ((formsP s.code).getD 1 0) s.a && fitB f ((formsP s.code).getD 2 0) s.b && fitB f ((formsP s.code).getD 3 0) s.c
    && (!(s.code == 4 || s.code == 5) || hasLabel f s.label) && (!(s.code == 3) || opList.contains s.op) := by
  unfold rightB
  rw [if_neg h2, if_neg h7]
theorem rightB_not {L : List Fm} {f : Fm} {s : Stp} (h2 : s.code ≠ 2) (h7 : s.code ≠ 7) (i : Nat) (hi : i < 4) (h : fitB f ((formsP s.code).getD i 0) (placeS s i) = false) : rightB L f s = false := by
  rw [rightB_else h2 h7]
  split
  · rfl
  · rcases i with _ | _ | _ | _ | i
    · have h : fitB f ((formsP s.code).getD 0 0) s.dst = false := h
      rw [h]
      simp
    · have h : fitB f ((formsP s.code).getD 1 0) s.a = false := h
      rw [h]
      simp
    · have h : fitB f ((formsP s.code).getD 2 0) s.b = false := h
      rw [h]
      simp
    · have h : fitB f ((formsP s.code).getD 3 0) s.c = false := h
      rw [h]
      simp
    · omega
theorem fit_more {p : Nat → Prop} {i : Nat} (h : ∀ j, j < i → p j) (hi : p i) : ∀ j, j < i + 1 → p j := fun j hj => by
  rcases Nat.lt_or_ge j i with h2 | h2
  · exact h j h2
  · obtain rfl : j = i := by omega
    exact hi
theorem idx_at (a b c d : Int) (w : World) : (Instr.index 184 (.agg #[.int .i64 a, .int .i64 b, .int .i64 c, .int .i64 d]) (.int .i64 0)).run Tryz.prog w = .ok (.int .i64 a) w ∧ (Instr.index 184 (.agg #[.int .i64 a, .int .i64 b, .int .i64 c, .int .i64 d]) (.int .i64 1)).run Tryz.prog w = .ok (.int .i64 b) w ∧ (Instr.index 184 (.agg #[.int .i64 a, .int .i64 b, .int .i64 c, .int .i64 d]) (.int .i64 2)).run Tryz.prog w = .ok (.int .i64 c) w ∧ (Instr.index 184 (.agg #[.int .i64 a, .int .i64 b, .int .i64 c, .int .i64 d]) (.int .i64 3)).run Tryz.prog w = .ok (.int .i64 d) w := ⟨by kernel_rfl, by kernel_rfl, by kernel_rfl, by kernel_rfl⟩
theorem bool_look (w : World) : (zeroValue 4).run Tryz.prog w = .ok (.bool false) w := by kernel_rfl
set_option maxRecDepth 100000 in
set_option maxHeartbeats 4000000 in
theorem right_else (L : List Fm) (f : Fm) (s : Stp) (cb bm mn : Nat) (ta sa aa : Option Addr) (tc sc ac : Nat) (W : World) (h2 : s.code ≠ 2) (h7 : s.code ≠ 7)
    (hT : IntsAt W None (.slice ta f.types.length tc) f.types) (hFo : FormsAt W) (hOp : OpsAt W) (hlab : I64 s.label) (hmap : IntMap W bm mn (.bool false) (fun l => .bool (hasLabel f l))) :
    Calls Tryz.prog 58 #[.pointer (some ⟨cb, 0, none⟩), .agg #[str f.name, .int .i64 f.params, .slice ta f.types.length tc, .slice sa f.steps.length sc], .agg (stpL s (.slice aa s.args.length ac)).toArray, .map (some bm)] W fun e w => e = .returned (.bool (rightB L f s)) ∧ Mods None W w := by
  obtain ⟨R, hR⟩ : ∃ R, R = rightB L f s := ⟨_, rfl⟩
  have HNF := Lib.hid (fun i hi h => (hR.trans (rightB_not (L := L) (f := f) (s := s) h2 h7 i hi h)))
  have HRR : Hid (R = if s.code < 1 ∨ s.code > 14 then false else fitB f ((formsP s.code).getD 0 0) s.dst && fitB f ((formsP s.code).getD 1 0) s.a && fitB f ((formsP s.code).getD 2 0) s.b && fitB f ((formsP s.code).getD 3 0) s.c && (!(s.code == 4 || s.code == 5) || hasLabel f s.label) && (!(s.code == 3) || opList.contains s.op)) := Lib.hid (by rw [hR, rightB_else h2 h7])
  rw [← hR]
  obtain ⟨W3, hW3⟩ : ∃ W3, W3 = ((W.alloc (.cells #[str f.name, .int .i64 f.params, .slice ta f.types.length tc, .slice sa f.steps.length sc] 55)).alloc (.cells (stpL s (.slice aa s.args.length ac)).toArray 57)) := ⟨_, rfl⟩
  have hmf : ∀ (fn : Go.Fn) (first cap : Array Value) (w : World), (Instr.makeFunc fn first cap).run Tryz.prog w = .ok (.func fn first cap) w := fun _ _ _ _ => rfl
  have HA : Ask W W3 f s W.heap.size ta sa aa tc sc ac := by rw [hW3]; exact Ask.new W f s ta sa aa tc sc ac
  have hT3 := hT.mods HA.mods (fun _ _ k => k)
  have HK := Lib.hid (fun (p : Int) => kind_any f p W.heap.size tc ta None W3 (HA.fn.cell rfl) hT3)
  have HF3 := Lib.hid (hFo.mods HA.mods)
  have HO3 := Lib.hid (hOp.mods HA.mods)
  have HMP := Lib.hid (hmap.mods HA.mods (fun f => f))
  have HLB := Lib.hid hlab
  have s0 := HA.st.cell (i := 0) rfl
  have s1 := HA.st.cell (i := 1) rfl
  have s2 := HA.st.cell (i := 2) rfl
  have s3 := HA.st.cell (i := 3) rfl
  have s4 := HA.st.cell (i := 4) rfl
  have s6 := HA.st.cell (i := 6) rfl
  have s7 := HA.st.cell (i := 7) rfl
  have HM := Lib.hid HA.mods
  have hn2 : (s.code == 2) = false := by simpa using h2
  have hn7 : (s.code == 7) = false := by simpa using h7
  have H27 := Lib.hid (And.intro h2 h7)
  clear HA hT hT3 hR h2 h7 hFo hOp hmap hlab
  unfold stpL str at *
  go_enter Tryz.func58, Tryz.ntmps58
  go_upto_region 1 with (fail)
  rw [← hW3]
  clear hW3
  by_cases hlo : s.code < 1
  · have HB : Hid (R = false) := Lib.hid (by rw [HRR.out, if_pos (Or.inl hlo)])
    go_wp2_with fail
    go_ret
    rw [HB.out]
    exact ⟨rfl, HM.out⟩
  by_cases hhi : s.code > 14
  · have HB : Hid (R = false) := Lib.hid (by rw [HRR.out, if_pos (Or.inr hhi)])
    have hlo2 : ¬ s.code < 1 := hlo
    go_wp2_with fail
    go_ret
    rw [HB.out]
    exact ⟨rfl, HM.out⟩
  obtain ⟨k, hk⟩ : ∃ k : Nat, s.code = k := ⟨s.code.toNat, by omega⟩
  have HKK := Lib.hid (show 1 ≤ k ∧ k ≤ 14 by omega)
  have HCK := Lib.hid hk
  have hk1 : ¬ (k : Int) < 1 := by omega
  have hk14 : ¬ (14 : Int) < (k : Int) := by omega
  rw [hk] at s0 hn2 hn7
  clear hlo hhi hk
  go_wp2_with fail
  go_loopw [13, 14, 15, 110] (fun _ _ _ iv wr => ∃ i : Nat, i ≤ 4 ∧ iv = .int .i64 i ∧ Hid (∀ j, j < i → fitB f ((formsP s.code).getD j 0) (placeS s j) = true) ∧ W3 = wr) (fun _ _ _ iv _ => (4 - intOf iv).toNat)
  case atStart => exact ⟨0, by decide, rfl, Lib.hid (fun j hj => absurd hj (by omega)), rfl⟩
  case round =>
    obtain ⟨i, hi, rfl, HI, rfl⟩ := hrel
    obtain ⟨x0, x1, x2, x3⟩ := idx_at s.dst s.a s.b s.c W3
    rcases (show i = 0 ∨ i = 1 ∨ i = 2 ∨ i = 3 ∨ i = 4 by omega) with rfl | rfl | rfl | rfl | rfl
    · obtain ⟨t, ht⟩ : ∃ t, t = (formsP (k : Int)).getD 0 0 := ⟨_, rfl⟩
      have t0 := HF3.out k 0 HKK.out.2 (by decide)
      rw [← ht] at t0
      try rw [Nat.add_zero] at t0
      have hk15 : (k : Int) < 15 := by have := HKK.out; omega
      have HTT := Lib.hid ht
      clear ht
      by_cases hpos : 0 < t
      · by_cases heq : kindP f s.dst = t
        · have HOK : Hid (fitB f ((formsP s.code).getD 0 0) (placeS s 0) = true) := Lib.hid (by rw [HCK.out, ← HTT.out]; show fitB f t s.dst = true; unfold fitB; simp [heq])
          have hne : (kindP f s.dst != t) = false := by simp [heq]
          have HQ := Lib.hid heq
          clear heq
          go_wp2_with fail
          go_at_call 86
          refine (HK.out s.dst).mono ?_
          rintro e w1 ⟨rfl, rfl⟩
          go_wp2_with fail
          exact ⟨⟨1, by decide, rfl, Lib.hid (fit_more HI.out HOK.out), trivial⟩, by simp [intOf]⟩
        · have HB : Hid (R = false) := Lib.hid (HNF.out 0 (by decide) (by rw [HCK.out, ← HTT.out]; show fitB f t s.dst = false; unfold fitB; simp [heq, hpos]))
          have hne : (kindP f s.dst != t) = true := by simpa using heq
          have HQ := Lib.hid heq
          clear heq
          go_wp2_with fail
          go_at_call 86
          refine (HK.out s.dst).mono ?_
          rintro e w1 ⟨rfl, rfl⟩
          go_wp2_with fail
          go_ret
          rw [HB.out]
          exact ⟨rfl, HM.out⟩
      · have HOK : Hid (fitB f ((formsP s.code).getD 0 0) (placeS s 0) = true) := Lib.hid (by rw [HCK.out, ← HTT.out]; show fitB f t s.dst = true; unfold fitB; simp [hpos])
        go_wp2_with fail
        exact ⟨⟨1, by decide, rfl, Lib.hid (fit_more HI.out HOK.out), trivial⟩, by simp [intOf]⟩
    · obtain ⟨t, ht⟩ : ∃ t, t = (formsP (k : Int)).getD 1 0 := ⟨_, rfl⟩
      have t0 := HF3.out k 1 HKK.out.2 (by decide)
      rw [← ht] at t0
      try rw [Nat.add_zero] at t0
      have hk15 : (k : Int) < 15 := by have := HKK.out; omega
      have HTT := Lib.hid ht
      clear ht
      by_cases hpos : 0 < t
      · by_cases heq : kindP f s.a = t
        · have HOK : Hid (fitB f ((formsP s.code).getD 1 0) (placeS s 1) = true) := Lib.hid (by rw [HCK.out, ← HTT.out]; show fitB f t s.a = true; unfold fitB; simp [heq])
          have hne : (kindP f s.a != t) = false := by simp [heq]
          have HQ := Lib.hid heq
          clear heq
          go_wp2_with fail
          go_at_call 86
          refine (HK.out s.a).mono ?_
          rintro e w1 ⟨rfl, rfl⟩
          go_wp2_with fail
          exact ⟨⟨2, by decide, rfl, Lib.hid (fit_more HI.out HOK.out), trivial⟩, by simp [intOf]⟩
        · have HB : Hid (R = false) := Lib.hid (HNF.out 1 (by decide) (by rw [HCK.out, ← HTT.out]; show fitB f t s.a = false; unfold fitB; simp [heq, hpos]))
          have hne : (kindP f s.a != t) = true := by simpa using heq
          have HQ := Lib.hid heq
          clear heq
          go_wp2_with fail
          go_at_call 86
          refine (HK.out s.a).mono ?_
          rintro e w1 ⟨rfl, rfl⟩
          go_wp2_with fail
          go_ret
          rw [HB.out]
          exact ⟨rfl, HM.out⟩
      · have HOK : Hid (fitB f ((formsP s.code).getD 1 0) (placeS s 1) = true) := Lib.hid (by rw [HCK.out, ← HTT.out]; show fitB f t s.a = true; unfold fitB; simp [hpos])
        go_wp2_with fail
        exact ⟨⟨2, by decide, rfl, Lib.hid (fit_more HI.out HOK.out), trivial⟩, by simp [intOf]⟩
    · obtain ⟨t, ht⟩ : ∃ t, t = (formsP (k : Int)).getD 2 0 := ⟨_, rfl⟩
      have t0 := HF3.out k 2 HKK.out.2 (by decide)
      rw [← ht] at t0
      try rw [Nat.add_zero] at t0
      have hk15 : (k : Int) < 15 := by have := HKK.out; omega
      have HTT := Lib.hid ht
      clear ht
      by_cases hpos : 0 < t
      · by_cases heq : kindP f s.b = t
        · have HOK : Hid (fitB f ((formsP s.code).getD 2 0) (placeS s 2) = true) := Lib.hid (by rw [HCK.out, ← HTT.out]; show fitB f t s.b = true; unfold fitB; simp [heq])
          have hne : (kindP f s.b != t) = false := by simp [heq]
          have HQ := Lib.hid heq
          clear heq
          go_wp2_with fail
          go_at_call 86
          refine (HK.out s.b).mono ?_
          rintro e w1 ⟨rfl, rfl⟩
          go_wp2_with fail
          exact ⟨⟨3, by decide, rfl, Lib.hid (fit_more HI.out HOK.out), trivial⟩, by simp [intOf]⟩
        · have HB : Hid (R = false) := Lib.hid (HNF.out 2 (by decide) (by rw [HCK.out, ← HTT.out]; show fitB f t s.b = false; unfold fitB; simp [heq, hpos]))
          have hne : (kindP f s.b != t) = true := by simpa using heq
          have HQ := Lib.hid heq
          clear heq
          go_wp2_with fail
          go_at_call 86
          refine (HK.out s.b).mono ?_
          rintro e w1 ⟨rfl, rfl⟩
          go_wp2_with fail
          go_ret
          rw [HB.out]
          exact ⟨rfl, HM.out⟩
      · have HOK : Hid (fitB f ((formsP s.code).getD 2 0) (placeS s 2) = true) := Lib.hid (by rw [HCK.out, ← HTT.out]; show fitB f t s.b = true; unfold fitB; simp [hpos])
        go_wp2_with fail
        exact ⟨⟨3, by decide, rfl, Lib.hid (fit_more HI.out HOK.out), trivial⟩, by simp [intOf]⟩
    · obtain ⟨t, ht⟩ : ∃ t, t = (formsP (k : Int)).getD 3 0 := ⟨_, rfl⟩
      have t0 := HF3.out k 3 HKK.out.2 (by decide)
      rw [← ht] at t0
      try rw [Nat.add_zero] at t0
      have hk15 : (k : Int) < 15 := by have := HKK.out; omega
      have HTT := Lib.hid ht
      clear ht
      by_cases hpos : 0 < t
      · by_cases heq : kindP f s.c = t
        · have HOK : Hid (fitB f ((formsP s.code).getD 3 0) (placeS s 3) = true) := Lib.hid (by rw [HCK.out, ← HTT.out]; show fitB f t s.c = true; unfold fitB; simp [heq])
          have hne : (kindP f s.c != t) = false := by simp [heq]
          have HQ := Lib.hid heq
          clear heq
          go_wp2_with fail
          go_at_call 86
          refine (HK.out s.c).mono ?_
          rintro e w1 ⟨rfl, rfl⟩
          go_wp2_with fail
          exact ⟨⟨4, by decide, rfl, Lib.hid (fit_more HI.out HOK.out), trivial⟩, by simp [intOf]⟩
        · have HB : Hid (R = false) := Lib.hid (HNF.out 3 (by decide) (by rw [HCK.out, ← HTT.out]; show fitB f t s.c = false; unfold fitB; simp [heq, hpos]))
          have hne : (kindP f s.c != t) = true := by simpa using heq
          have HQ := Lib.hid heq
          clear heq
          go_wp2_with fail
          go_at_call 86
          refine (HK.out s.c).mono ?_
          rintro e w1 ⟨rfl, rfl⟩
          go_wp2_with fail
          go_ret
          rw [HB.out]
          exact ⟨rfl, HM.out⟩
      · have HOK : Hid (fitB f ((formsP s.code).getD 3 0) (placeS s 3) = true) := Lib.hid (by rw [HCK.out, ← HTT.out]; show fitB f t s.c = true; unfold fitB; simp [hpos])
        go_wp2_with fail
        exact ⟨⟨4, by decide, rfl, Lib.hid (fit_more HI.out HOK.out), trivial⟩, by simp [intOf]⟩
    · have HIN := Lib.hid (fun (j : Nat) (hj : j < 4) => HI.out j hj)
      have HRE : Hid (R = ((!((k : Int) == 4 || (k : Int) == 5) || hasLabel f s.label) && (!((k : Int) == 3) || opList.contains s.op))) := Lib.hid (by
        have e0 : fitB f ((formsP s.code).getD 0 0) s.dst = true := HIN.out 0 (by decide)
        have e1 : fitB f ((formsP s.code).getD 1 0) s.a = true := HIN.out 1 (by decide)
        have e2 : fitB f ((formsP s.code).getD 2 0) s.b = true := HIN.out 2 (by decide)
        have e3 : fitB f ((formsP s.code).getD 3 0) s.c = true := HIN.out 3 (by decide)
        rw [HRR.out, if_neg (by have h1 := HCK.out; have h2 := HKK.out; omega), e0, e1, e2, e3, HCK.out]
        simp)
      have HC := Lib.hid (fun (n : Nat) => (ops_has s.op (W3.drewN n) (HO3.out.mods ((Mods.refl _ _).drewN n))).mono fun (e : Ending) (w : World) ⟨h1, h2⟩ => (⟨h1, n, h2.symm⟩ : e = Ending.returned (.bool (opList.contains s.op)) ∧ ∃ m, w = W3.drewN m))
      have hlk : ∀ n, (Instr.lookup 128 (.map (some bm)) (.int .i64 s.label) false).run Tryz.prog (W3.drewN n) = .ok (.bool (hasLabel f s.label)) (W3.drewN n) := fun n => (HMP.out.mods ((Mods.refl None W3).drewN n) (fun f => f)).look Tryz.underlying128 (bool_look _) HLB.out
      have hlk0 := hlk 0
      have hlk1 := hlk 1
      obtain ⟨c, hc⟩ : ∃ c, c = opList.contains s.op := ⟨_, rfl⟩
      obtain ⟨l, hl⟩ : ∃ l, l = hasLabel f s.label := ⟨_, rfl⟩
      rw [← hc] at HC HRE
      rw [← hl] at HRE hlk hlk0 hlk1
      clear hc hl x0 x1 x2 x3 HI
      unfold str at HC
      by_cases hk3 : k = 3
      · subst hk3
        have HX : Hid (R = c) := Lib.hid (by rw [HRE.out]; simp)
        go_wp2_with fail
        go_quiet ((go_at_call 88; exact HC.out _))
        go_wp2_with fail
        go_ret
        rw [HX.out]
        exact ⟨rfl, HM.out.drewN _⟩
      · by_cases hk4 : k = 4 ∨ k = 5
        · have HX : Hid (R = l) := Lib.hid (by rw [HRE.out]; rcases hk4 with rfl | rfl <;> simp)
          cases l
          all_goals
            rcases hk4 with rfl | rfl
            all_goals
              go_wp2_with fail
              go_quiet ((go_at_call 88; exact HC.out _))
              go_wp2_with fail
              go_ret
              rw [HX.out]
              exact ⟨rfl, HM.out.drewN _⟩
        · have h3 : ((k : Int) == 3) = false := by simp; omega
          have h4 : ((k : Int) == 4) = false := by simp; omega
          have h5 : ((k : Int) == 5) = false := by simp; omega
          have h6 : ((k : Int) != 3) = true := by simp; omega
          have HX : Hid (R = true) := Lib.hid (by rw [HRE.out, h3, h4, h5]; rfl)
          go_wp2_with fail
          go_quiet ((go_at_call 88; exact HC.out _))
          go_wp2_with fail
          go_ret
          rw [HX.out]
          exact ⟨rfl, HM.out.drewN _⟩
end Go.Proofs.YtnicpmoanjddbaaGreatDoor.MidP

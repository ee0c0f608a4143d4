/- Known: from label to label, what is known is done ahead. Conditions: what is asked lies. -/
import Derived.Test.YtoajcbfejplfbaaDoorFoldOut
namespace Go.Proofs.YtoajcbfejplfbaaDoor.MidP
open Go.RowKit Go.Proofs.YtoajcbfejplfbaaDoor.Wo Go.Maps Go.Proofs.YtoajcbfejplfbaaDoor.TreeP
set_option linter.unusedVariables false
set_option linter.unusedSimpArgs false
theorem mk_m64 (w : World) : (Instr.makeMap 115 none).run Tryd.prog w = .ok (.map (some w.heap.size)) (w.alloc (.map #[] 0)) := by
  simp [Instr.makeMap, run_underlying Tryd.underlying115]
theorem mk_mint (w : World) : (Instr.makeMap 72 none).run Tryd.prog w = .ok (.map (some w.heap.size)) (w.alloc (.map #[] 0)) := by
  simp [Instr.makeMap, run_underlying Tryd.underlying72]
/-- Nothing is known, made anew. -/
theorem kat_new (w : World) : KAt (((w.alloc (.map #[] 0)).alloc (.map #[] 0)).alloc (.cells #[.map (some w.heap.size), .map (some (w.heap.size + 1))] 117)) (w.heap.size + 2) w.heap.size (w.heap.size + 1) 0 Kn.none := by
  refine ⟨?_, ?_, ?_, ⟨by omega, by omega, by omega⟩, (fun p x h => by cases h), (fun p x h => by cases h)⟩
  · have := Blk.new ((w.alloc (.map #[] 0)).alloc (.map #[] 0)) #[.map (some w.heap.size), .map (some (w.heap.size + 1))] 117
    simpa using this
  · exact (OMap.new 2 w).mods (((Mods.refl None _).alloc _).alloc _) (fun f => f)
  · have := (OMap.new 3 (w.alloc (.map #[] 0))).mods ((Mods.refl None _).alloc (.cells #[.map (some w.heap.size), .map (some (w.heap.size + 1))] 117)) (fun f => f)
    simpa [Kn.none] using this
theorem tmod_i64 {a b : Int} (ha : I64 a) : I64 (a.tmod b) := by
  unfold I64 at *
  have h1 := Int.natAbs_tmod a b
  have h2 := Nat.mod_le a.natAbs b.natAbs
  rcases Int.lt_or_le a 0 with h | h
  · have h3 : 0 ≤ (-a).tmod b := Int.tmod_nonneg b (by omega)
    rw [Int.neg_tmod] at h3
    omega
  · omega
theorem wrap64_i64 (a : Int) : I64 (wrap64 a) := by
  unfold I64 wrap64
  omega
theorem oneB_i64 (b : Bool) : I64 (oneB b) := by
  unfold I64 oneB
  split <;> omega
theorem both_i64 {op : List UInt8} {a b : Int} (ha : I64 a) (hb : I64 b) : I64 (bothP op a b).1 := by
  have h0 : I64 0 := by unfold I64; omega
  unfold bothP
  split
  · exact wrap64_i64 _
  split
  · exact wrap64_i64 _
  split
  · exact wrap64_i64 _
  split
  · split
    · exact h0
    · split
      · exact wrap64_i64 _
      · exact tmod_i64 ha
  split
  · exact oneB_i64 _
  split
  · exact oneB_i64 _
  split
  · exact oneB_i64 _
  split
  · exact oneB_i64 _
  split
  · exact oneB_i64 _
  split
  · exact oneB_i64 _
  · exact h0
theorem reads_okS {k : Kn} {s : Stp} (hs : ∀ p x, k.same p = some x → I64 x) (h : StpOk s) : StpOk (k.reads s) := by
  obtain ⟨⟨h1, h2, h3, h4, h5, h6, h7⟩, h8, h9⟩ := h
  refine ⟨⟨h1, h2, Kn.of64 hs h3, Kn.of64 hs h4, Kn.of64 hs h5, h6, h7⟩, h8, fun x hx => ?_⟩
  obtain ⟨y, hy, rfl⟩ := List.mem_map.1 hx
  exact Kn.of64 hs (h9 y hy)
theorem step_okS {k : Kn} {s : Stp} (hn : ∀ p x, k.nums p = some x → I64 x) (hs : ∀ p x, k.same p = some x → I64 x) (h : StpOk s) : StpOk (k.step s) := by
  have hr := reads_okS hs h
  have h0 : I64 0 := by unfold I64; omega
  have h1 : I64 1 := by unfold I64; omega
  have h2 : I64 2 := by unfold I64; omega
  have h4 : I64 4 := by unfold I64; omega
  have hcst : ∀ n, I64 n → StpOk (constP (k.reads s).dst n) := fun n hn => ⟨⟨h1, hr.nums.2.1, h0, h0, h0, hn, h0⟩, ⟨Nat.zero_le _, Nat.zero_le _⟩, fun x hx => by cases hx⟩
  have hcpy : ∀ p, I64 p → StpOk (copyP (k.reads s).dst p) := fun p hp => ⟨⟨h2, hr.nums.2.1, hp, h0, h0, h0, h0⟩, ⟨Nat.zero_le _, Nat.zero_le _⟩, fun x hx => by cases hx⟩
  unfold Kn.step turnP
  split
  · rename_i c
    obtain ⟨a, ha⟩ := Option.isSome_iff_exists.1 c.2
    rw [ha]
    exact hcst _ (hn _ _ ha)
  split
  · exact ⟨⟨h4, h0, h0, h0, h0, h0, hr.nums.2.2.2.2.2.2⟩, ⟨Nat.zero_le _, Nat.zero_le _⟩, fun x hx => by cases hx⟩
  split
  · rename_i c
    obtain ⟨a, ha⟩ := Option.isSome_iff_exists.1 c.2.1
    obtain ⟨b, hb⟩ := Option.isSome_iff_exists.1 c.2.2
    split
    · rw [ha, hb]
      exact hcst _ (both_i64 (hn _ _ ha) (hn _ _ hb))
    · exact hr
  split
  · exact hcpy _ hr.nums.2.2.1
  split
  · exact hcpy _ hr.nums.2.2.2.1
  · exact hr
def zeroFnL : List Value := [.string ⟨#[]⟩, .int .i64 0, .slice none 0 0, .slice none 0 0]
/-- Where Known's loop stands. -/
structure KnSt (W : World) (F : Fm) (fs : List Value) (i : Nat) (kb nb sb n : Nat) (K : Kn) (ov : Value) (l : List Stp) (wr : World) : Prop where
  run : l ++ knownS K (F.steps.drop i) = knownS Kn.none F.steps
  kat : KAt wr kb nb sb n K
  cnt : n ≤ i
  outs : Outs wr W.heap.size (fun k => k < W.heap.size + 2 ∨ k = kb ∨ k = nb ∨ k = sb) ov l
  far : W.heap.size + 2 ≤ nb ∧ W.heap.size + 2 ≤ sb
  mods : Mods None W wr
  b0 : Blk wr W.heap.size fs 35
  b1 : Blk wr (W.heap.size + 1) zeroFnL 35
  len : l.length ≤ i
set_option maxRecDepth 100000 in
set_option maxHeartbeats 8000000 in
theorem known_any {W : World} {S : Nat → Prop} {F : Fm} {fv : Value} (hv : FmV W S F fv) (hS : ∀ k, S k → k < W.heap.size) (hok : FmOk F) (hlen : F.steps.length ≤ 6000) (hargs : ∀ s ∈ F.steps, s.args.length ≤ 1000000) :
    Calls Tryd.prog 40 #[fv] W fun e w => ∃ fv', e = .returned fv' ∧ FmV w S (knownF F) fv' ∧ Mods None W w := by
  obtain ⟨ta, tc, sa, sc, rfl, hty, hst⟩ := hv
  obtain ⟨W2, hW2⟩ : ∃ W2, W2 = (W.alloc (.cells #[str F.name, .int .i64 F.params, .slice ta F.types.length tc, .slice sa F.steps.length sc] 35)).alloc (.cells #[.string ⟨#[]⟩, .int .i64 0, .slice none 0 0, .slice none 0 0] 35) := ⟨_, rfl⟩
  have hm2 : Mods None W W2 := by rw [hW2]; exact ((Mods.refl _ _).alloc _).alloc _
  have hs2 : W2.heap.size = W.heap.size + 2 := by rw [hW2]; simp
  have hb0 : Blk W2 W.heap.size [str F.name, .int .i64 F.params, .slice ta F.types.length tc, .slice sa F.steps.length sc] 35 := by rw [hW2]; exact (Blk.new W _ _).alloc _
  have hb1 : Blk W2 (W.heap.size + 1) zeroFnL 35 := by
    rw [hW2]
    have := Blk.new (W.alloc (.cells #[str F.name, .int .i64 F.params, .slice ta F.types.length tc, .slice sa F.steps.length sc] 35)) #[.string ⟨#[]⟩, .int .i64 0, .slice none 0 0, .slice none 0 0] 35
    simpa [zeroFnL] using this
  obtain ⟨W5, hW5⟩ : ∃ W5, W5 = ((W2.alloc (.map #[] 0)).alloc (.map #[] 0)).alloc (.cells #[.map (some W2.heap.size), .map (some (W2.heap.size + 1))] 117) := ⟨_, rfl⟩
  have hm5 : Mods None W2 W5 := by rw [hW5]; exact (((Mods.refl _ _).alloc _).alloc _).alloc _
  have hk5 : KAt W5 (W2.heap.size + 2) W2.heap.size (W2.heap.size + 1) 0 Kn.none := by rw [hW5]; exact kat_new W2
  have hmk := mk_m64
  have hmk2 := mk_mint
  obtain ⟨tn, htn⟩ : ∃ tn, tn = F.types.length := ⟨_, rfl⟩
  obtain ⟨sn, hsn⟩ : ∃ sn, sn = F.steps.length := ⟨_, rfl⟩
  rw [← htn, ← hsn] at hW2 hb0 ⊢
  have f3 := (hb0.mods hm5 (fun f => f)).cell (i := 3) rfl
  have HKS : Hid (KnSt W F [str F.name, .int .i64 F.params, .slice ta tn tc, .slice sa sn sc] 0 (W2.heap.size + 2) W2.heap.size (W2.heap.size + 1) 0 Kn.none (.slice none 0 0) [] W5) := Lib.hid
    ⟨rfl, hk5, Nat.le_refl _, Outs.none_ _ _ _, ⟨by omega, by omega⟩, hm2.trans hm5, hb0.mods hm5 (fun f => f), hb1.mods hm5 (fun f => f), Nat.zero_le _⟩
  have HSN := Lib.hid hsn
  have HTN := Lib.hid htn
  have HST := Lib.hid hst
  have HTY := Lib.hid hty
  have HH := Lib.hid (And.intro hS (And.intro hok (And.intro hlen hargs)))
  clear hm2 hs2 hb0 hb1 hm5 hk5 htn hsn hst hty hS hok hlen hargs
  unfold str at *
  go_enter Tryd.func40, Tryd.ntmps40
  go_upto_region 1 with (fail)
  rw [← hW2]
  clear hW2
  go_upto_region 2 with (fail)
  rw [← hW5]
  clear hW5
  obtain ⟨kb0, hkb0⟩ : ∃ k, k = W2.heap.size + 2 := ⟨_, rfl⟩
  rw [← hkb0] at HKS ⊢
  obtain ⟨nb0, hnb0⟩ : ∃ k, k = W2.heap.size := ⟨_, rfl⟩
  rw [← hnb0] at HKS ⊢
  obtain ⟨sb0, hsb0⟩ : ∃ k, k = nb0 + 1 := ⟨_, rfl⟩
  rw [← hsb0] at HKS ⊢
  clear hkb0 hnb0 hsb0
  go_wp2_with fail
  clear f3
  go_loopw [3, 4, 17] (fun kv ov iv wr => ∃ i kb nb sb n K l, i ≤ sn ∧ kv = .pointer (some ⟨kb, 0, none⟩) ∧ iv = .int .i64 ((i : Nat) : Int) ∧ Hid (KnSt W F [.string ⟨F.name.toArray⟩, .int .i64 F.params, .slice ta tn tc, .slice sa sn sc] i kb nb sb n K ov l wr)) (fun _ _ iv _ => (sn - intOf iv).toNat)
  case atStart => exact ⟨0, kb0, nb0, sb0, 0, Kn.none, [], Nat.zero_le _, rfl, rfl, HKS⟩
  case round =>
    clear HKS
    obtain ⟨i, kb, nb, sb, n, K, l, hi, rfl, rfl, HS⟩ := hrel
    obtain ⟨oa, oc, rfl⟩ := HS.out.outs.form
    by_cases hlt : i < sn
    · have hil : i < F.steps.length := by rw [← HSN.out]; exact hlt
      obtain ⟨x, hxi⟩ : ∃ x, F.steps[i]? = some x := ⟨_, List.getElem?_eq_getElem hil⟩
      have hxe : F.steps[i] = x := by
        obtain ⟨h1, h2⟩ := List.getElem?_eq_some_iff.1 hxi
        exact h2
      have hxm : x ∈ F.steps := List.mem_of_getElem? hxi
      have hdrop : F.steps.drop i = x :: F.steps.drop (i + 1) := by
        rw [← hxe]
        exact List.drop_eq_getElem_cons hil
      obtain ⟨gs, os, xa, xc, rfl, hcs, hxargs⟩ := (HST.out.mods (T := S) (HS.out.mods.mono fun _ _ f => f.elim) (fun _ _ k => k)).get hil
      rw [hxe] at hcs hxargs
      obtain ⟨y0, y1, y2, y3, y4, y5, y6, y7, y8, y9⟩ := hcs
      have hpi : (i : Int) < (sn : Int) := by omega
      have hi7 : i < 6000 := by have h1 := HH.out.2.2.1; omega
      obtain ⟨xn, hxn⟩ : ∃ xn, xn = x.args.length := ⟨_, rfl⟩
      rw [← hxn] at y9
      obtain ⟨W6, hW6⟩ : ∃ W6, W6 = wr.alloc (.cells (stpL x (.slice xa xn xc)).toArray 44) := ⟨_, rfl⟩
      have hm6 : Mods None wr W6 := by rw [hW6]; exact (Mods.refl _ _).alloc _
      have hb6 : Blk W6 wr.heap.size (stpL x (.slice xa xn xc)) 44 := by rw [hW6]; exact Blk.new wr _ _
      have hs6 : W6.heap.size = wr.heap.size + 1 := by rw [hW6]; simp
      have HB6 := Lib.hid hb6
      have HM6 := Lib.hid hm6
      have d0 := hb6.cell (i := 0) rfl
      have HX := Lib.hid (And.intro hxm (And.intro hdrop (And.intro hxn hil)))
      have HXA := Lib.hid hxargs
      have HLT := Lib.hid hlt
      have HK6 := Lib.hid (HS.out.kat.mods hm6 (fun f => f) (fun f => f) (fun f => f))
      have HO6 := Lib.hid (HS.out.outs.mods hm6 (fun _ f => f.elim))
      have HS6 := Lib.hid hs6
      clear hxi hxe hxm hdrop hxargs hm6 hb6 hs6 hxn hil
      unfold stpL str at *
      go_upto_region 6 with (fail)
      rw [← hW6]
      clear hW6 y0 y1 y2 y3 y4 y5 y6 y7 y8 y9
      go_upto_if 23 with (fail)
      go_cut [3] (fun kv w => ∃ kb' nb' sb' n', kv = .pointer (some ⟨kb', 0, none⟩) ∧ Hid (KAt w kb' nb' sb' n' (freshK K x)) ∧ Hid (n' ≤ i) ∧ Hid (Outs w W.heap.size (fun k => k < W.heap.size + 2 ∨ k = kb' ∨ k = nb' ∨ k = sb') (.slice oa l.length oc) l) ∧ Hid (Mods None W6 w) ∧ Hid (W.heap.size + 2 ≤ nb' ∧ W.heap.size + 2 ≤ sb'))
      case first =>
        by_cases h6 : x.code = 6
        · have h6b : (x.code == 6) = true := by simpa using h6
          have H6 := Lib.hid h6
          clear h6
          go_wp2_with fail
          go_meet
          case rel =>
            have hm : Mods None W6 (((W6.alloc (.map #[] 0)).alloc (.map #[] 0)).alloc (.cells #[.map (some W6.heap.size), .map (some (W6.heap.size + 1))] 117)) := (((Mods.refl _ _).alloc _).alloc _).alloc _
            have h1 := HS6.out
            have h2 := HS.out.mods.size
            have h3 := HS.out.b1.lt
            refine ⟨W6.heap.size + 2, W6.heap.size, W6.heap.size + 1, 0, rfl, Lib.hid (by unfold freshK; rw [if_pos H6.out]; exact kat_new W6), Lib.hid (Nat.zero_le _), Lib.hid ((HO6.out.shift (S' := fun k => k < W.heap.size + 2 ∨ k = W6.heap.size + 2 ∨ k = W6.heap.size ∨ k = W6.heap.size + 1) (fun k hk hs => by omega)).mods hm (fun _ f => f.elim)), Lib.hid hm, Lib.hid ⟨by omega, by omega⟩⟩
        · have h6b : (x.code == 6) = false := by simpa using h6
          have H6 := Lib.hid h6
          clear h6
          go_wp2_with fail
          go_meet
          case rel => exact ⟨kb, nb, sb, n, rfl, Lib.hid (by unfold freshK; rw [if_neg H6.out]; exact HK6.out), Lib.hid HS.out.cnt, HO6, Lib.hid (Mods.refl _ _), Lib.hid HS.out.far⟩
      case rest =>
      obtain ⟨wq, rfl⟩ : ∃ wq : World, wq = wc := ⟨_, rfl⟩
      obtain ⟨kb', nb', sb', n', rfl, HK7, HN7, HO7, HM7, HF7⟩ := hcut
      have HBX := HB6.out.mods HM7.out (fun f => f)
      have e0 := HBX.cell (i := 0) rfl
      have e1 := HBX.cell (i := 1) rfl
      have e2 := HBX.cell (i := 2) rfl
      have e3 := HBX.cell (i := 3) rfl
      have e4 := HBX.cell (i := 4) rfl
      have e5 := HBX.cell (i := 5) rfl
      have e6 := HBX.cell (i := 6) rfl
      have e7 := HBX.cell (i := 7) rfl
      have e8 := HBX.cell (i := 8) rfl
      have e9 := HBX.cell (i := 9) rfl
      have HSC := Lib.hid (step_any HK7.out x (.agg (stpL x (.slice xa x.args.length xc)).toArray) S ⟨xa, xc, rfl, HXA.out.mods ((HM6.out.trans HM7.out).mono fun _ _ f => f.elim) (fun _ _ k => k)⟩ (HH.out.2.1.steps x HX.out.1) (HH.out.2.2.2 x HX.out.1))
      rw [← HX.out.2.2.1] at HSC
      unfold stpL str at HSC
      clear HBX d0
      go_wp2_with fail
      go_at_call 62
      refine HSC.out.mono ?_
      rintro e w8 ⟨v', rfl, ⟨za, zc, rfl, hz⟩, hm8⟩
      obtain ⟨T, hT⟩ : ∃ T, T = (freshK K x).step x := ⟨_, rfl⟩
      have HT := Lib.hid hT
      rw [← hT] at hz ⊢
      obtain ⟨zn, hzn⟩ : ∃ zn, zn = T.args.length := ⟨_, rfl⟩
      have HZN := Lib.hid hzn
      rw [← hzn] at hz ⊢
      obtain ⟨W9, hW9⟩ : ∃ W9, W9 = w8.alloc (.cells (stpL T (.slice za zn zc)).toArray 44) := ⟨_, rfl⟩
      have hm9 : Mods None w8 W9 := by rw [hW9]; exact (Mods.refl _ _).alloc _
      have hb9 : Blk W9 w8.heap.size (stpL T (.slice za zn zc)) 44 := by rw [hW9]; exact Blk.new w8 _ _
      obtain ⟨K', hK'⟩ : ∃ K', K' = freshK K x := ⟨_, rfl⟩
      have HK' := Lib.hid hK'
      rw [← hK'] at HK7
      have hk9 : KAt W9 kb' nb' sb' n' K' := (HK7.out.mods hm8 (fun f => f) (fun f => f) (fun f => f)).mods hm9 (fun f => f) (fun f => f) (fun f => f)
      have HZ := Lib.hid hz
      have HM8 := Lib.hid hm8
      have HM9 := Lib.hid hm9
      have HB9 := Lib.hid hb9
      have HK9 := Lib.hid hk9
      have HTO : Hid (StpOk T) := Lib.hid (by rw [HT.out, ← HK'.out]; exact step_okS HK7.out.okn HK7.out.oks (HH.out.2.1.steps x HX.out.1))
      obtain ⟨A, hA⟩ : ∃ A, A = K'.nums T.a := ⟨_, rfl⟩
      have hlA := (hk9.nums.mods (Mods.refl None W9).drew (fun f => f)).look (t := 115) Tryd.underlying115 Tryd.underlying2 (kn_zero_int64 _) HTO.out.nums.2.2.1
      rw [← hA] at hlA
      have HA := Lib.hid hA
      have k0 := hk9.blk.cell (i := 0) rfl
      have t2 := hb9.cell (i := 2) rfl
      have t0 := hb9.cell (i := 0) rfl
      clear e0 e1 e2 e3 e4 e5 e6 e7 e8 e9 hT hzn hz hm8 hm9 hb9 hk9 hA hK' HSC
      unfold stpL str at *
      go_upto_region 9 with (fail)
      rw [← hW9]
      clear hW9
      go_region
      clear k0 t2 hlA
      go_upto_region 10 with (fail)
      obtain ⟨cc, hcc⟩ : ∃ cc, cc = idle K' T := ⟨_, rfl⟩
      have HCC := Lib.hid hcc
      clear hcc
      go_cut [50] (fun cv wx => cv = .bool cc ∧ W9.drew = wx)
      case first =>
        have hcc := HCC.out
        unfold idle at hcc
        rw [← HA.out] at hcc
        by_cases h5 : T.code = 5
        · have g5 : (T.code == 5) = true := by simpa using h5
          cases A with
          | none =>
            have e : cc = false := by rw [hcc]; simp
            subst e
            clear hcc h5
            go_wp2_with fail
            go_meet
            case rel => exact ⟨rfl, rfl⟩
          | some a =>
            by_cases h0 : a = 0
            · have e : cc = false := by rw [hcc]; simp [h0]
              subst e
              subst h0
              clear hcc h5
              go_wp2_with fail
              go_meet
              case rel => exact ⟨rfl, rfl⟩
            · have e : cc = true := by rw [hcc]; simp [h0, h5]
              have g0 : (a == 0) = false := by simpa using h0
              subst e
              clear hcc h5 h0
              go_wp2_with fail
              go_meet
              case rel => exact ⟨by first | rfl | simp [bne, g0], rfl⟩
        · have g5 : (T.code == 5) = false := by simpa using h5
          have e : cc = false := by rw [hcc]; simp [g5]
          subst e
          clear hcc h5
          go_wp2_with fail
          go_meet
          case rel => exact ⟨rfl, rfl⟩
      case rest =>
      obtain ⟨rfl, rfl⟩ := hcut
      clear t0
      have hm69 : Mods None wr W9 := (HM6.out.trans HM7.out).trans (HM8.out.trans HM9.out)
      have HM69 := Lib.hid hm69
      have HO9 := Lib.hid ((HO7.out.mods HM8.out (fun _ f => f.elim)).mods HM9.out (fun _ f => f.elim))
      have hrun := HS.out.run
      have hT' : T = K'.step x := by rw [HT.out, HK'.out]
      rw [HX.out.2.1, knownS, ← HK'.out, ← hT'] at hrun
      clear hT'
      have HRN := Lib.hid hrun
      clear hm69 hrun
      cases cc with
      | true =>
        go_wp2_with fail
        refine ⟨⟨i + 1, kb', nb', sb', n', K', l, by omega, rfl, by go_num, Lib.hid ?_⟩, by simp [intOf]; omega⟩
        have hrun := HRN.out
        rw [← HCC.out, if_pos rfl] at hrun
        have hd : Mods None W9 W9.drew := (Mods.refl _ _).drew
        exact ⟨hrun, HK9.out.mods hd (fun f => f) (fun f => f) (fun f => f), by have := HN7.out; omega, HO9.out.mods hd (fun _ f => f.elim), HF7.out, HS.out.mods.trans (HM69.out.trans hd), (HS.out.b0.mods HM69.out (fun f => f)).mods hd (fun f => f), (HS.out.b1.mods HM69.out (fun f => f)).mods hd (fun f => f), by have := HS.out.len; omega⟩
      | false =>
        have hd : Mods None W9 W9.drew := (Mods.refl _ _).drew
        have hzd : IntsAt W9.drew (fun k => k < wq.heap.size) (.slice za zn zc) T.args := (HZ.out.mods (HM9.out.mono fun _ _ f => f.elim) (fun _ _ k => k)).mods (hd.mono fun _ _ f => f.elim) (fun _ _ k => k)
        have HZD := Lib.hid hzd
        have HD := Lib.hid hd
        have HBD := Lib.hid (HB9.out.mods hd (fun f => f))
        have HLC := Lib.hid (learn_any (HK9.out.mods hd (fun f => f) (fun f => f) (fun f => f)) T (.agg (stpL T (.slice za T.args.length zc)).toArray) (fun k => k < wq.heap.size) ⟨za, zc, rfl, by rw [← HZN.out]; exact hzd⟩ HTO.out.nums.2.1 HTO.out.nums.2.2.2.2.2.1 HTO.out.nums.2.2.1 (by have := HN7.out; omega))
        rw [← HZN.out] at HLC
        unfold stpL str at HLC
        have e0 := HBD.out.cell (i := 0) rfl
        have e1 := HBD.out.cell (i := 1) rfl
        have e2 := HBD.out.cell (i := 2) rfl
        have e3 := HBD.out.cell (i := 3) rfl
        have e4 := HBD.out.cell (i := 4) rfl
        have e5 := HBD.out.cell (i := 5) rfl
        have e6 := HBD.out.cell (i := 6) rfl
        have e7 := HBD.out.cell (i := 7) rfl
        have e8 := HBD.out.cell (i := 8) rfl
        have e9 := HBD.out.cell (i := 9) rfl
        clear hd hzd
        go_wp2_with fail
        go_at_call 63
        refine HLC.out.mono ?_
        rintro e w10 ⟨rfl, hk10, hm10⟩
        obtain ⟨cs, hcs1, hcs2, hcs3⟩ := (HO9.out.mods HD.out (fun _ f => f.elim)).mods hm10 (fun k hk => Or.inr (Or.inr hk))
        have hbx : Blk w10 w8.heap.size (stpL T (.slice za zn zc)) 44 := HBD.out.mods hm10 (fun e => by
          have h1 := HK7.out.nums.lt
          have h2 := HK7.out.same.lt
          have h3 := HM8.out.size
          omega)
        have e0 := hbx.cell (i := 0) rfl
        have e1 := hbx.cell (i := 1) rfl
        have e2 := hbx.cell (i := 2) rfl
        have e3 := hbx.cell (i := 3) rfl
        have e4 := hbx.cell (i := 4) rfl
        have e5 := hbx.cell (i := 5) rfl
        have e6 := hbx.cell (i := 6) rfl
        have e7 := hbx.cell (i := 7) rfl
        have e8 := hbx.cell (i := 8) rfl
        have e9 := hbx.cell (i := 9) rfl
        obtain ⟨i0, hi0, hz0, hz1, hz2⟩ := info_parts stp_info
        have HI := Lib.hid (And.intro hi0 (And.intro hz0 (And.intro hz1 hz2)))
        obtain ⟨ln, hln⟩ : ∃ ln, ln = l.length := ⟨_, rfl⟩
        have HLN := Lib.hid hln
        rw [← hln] at hcs1 hcs2 hcs3 ⊢
        have HMA : Hid (Mods None w10 (w10.alloc (.cells (stpL T (.slice za zn zc)).toArray 44))) := Lib.hid ((Mods.refl _ _).alloc _)
        have HOA := Lib.hid (HMA.out.ownsRow hcs1 (fun k hk f => f))
        have HRA := Lib.hid (RelS.mods hcs2 (HMA.out.mono fun _ _ f => f.elim) (fun _ _ k => k))
        have HCS3 := Lib.hid hcs3
        have HK10 := Lib.hid hk10
        have HOQ := Lib.hid HO7.out
        have HM10 := Lib.hid hm10
        have HLE : Hid (ln ≤ 6000) := Lib.hid (by have := HS.out.len; omega)
        have HBS : Hid (W.heap.size ≤ (w10.alloc (.cells (stpL T (.slice za zn zc)).toArray 44)).heap.size) := Lib.hid (by have h1 := HS.out.mods.size; have h2 := HM69.out.size; have h3 := HD.out.size; have h4 := hm10.size; have h5 := HMA.out.size; omega)
        have hnew := Lib.hid (row_new w10 (stpL T (.slice za zn zc)) 44)
        have hone := Lib.hid (stp_one T za zn zc)
        clear hcs1 hcs2 hcs3 hk10 hm10 hbx hi0 hz0 hz1 hz2 hln HLC
        unfold stpL str at hnew hone HMA HOA HBS HRA
        go_wp2_with (at_builtin; refine wpList_append_own_at _ rfl _ _ 33 rfl W.heap.size 44 i0 _ 10 112 Tryd.underlying33 HI.out.1 HI.out.2.1 HI.out.2.2.1 HI.out.2.2.2 rfl (by decide) (.slice oa ln oc) ln cs rfl HOA.out ⟨w10.heap.size, 0, none⟩ 1 1 [.int .i64 T.code, .int .i64 T.dst, .int .i64 T.a, .int .i64 T.b, .int .i64 T.c, .int .i64 T.n, .string ⟨T.op.toArray⟩, .int .i64 T.label, .string ⟨T.name.toArray⟩, .slice za zn zc] rfl rfl hnew.out hone.out (by have := HLE.out; unfold maxLen; omega) (by have := HLE.out; omega) HBS.out ?_; intro v' w11 hown hgrow hnil hloc; have HOW := Lib.hid hown; have HGR := Lib.hid (And.intro hgrow hloc); clear hown hgrow hnil hloc; refine Hid.out ?_)
        refine Lib.hid ?_
        obtain ⟨qa, qc, rfl⟩ := slice_form HOW.out
        go_wp2_with fail
        refine ⟨⟨i + 1, kb', nb', sb', n' + 1, K'.learn T, l ++ [T], by omega, rfl, by go_num, Lib.hid ?_⟩, by simp [intOf]; omega⟩
        have hrun := HRN.out
        rw [← HCC.out, if_neg (by simp)] at hrun
        have hHA := HMA.out
        have hHO := HOA.out
        have hHR := HRA.out
        obtain ⟨w12, hw12⟩ : ∃ w12, w12 = w10.alloc (.cells #[.int .i64 T.code, .int .i64 T.dst, .int .i64 T.a, .int .i64 T.b, .int .i64 T.c, .int .i64 T.n, .string ⟨T.op.toArray⟩, .int .i64 T.label, .string ⟨T.name.toArray⟩, .slice za zn zc] 44) := ⟨_, rfl⟩
        have hHA : Mods None w10 w12 := by rw [hw12]; exact hHA
        have hHO : w12.ownsRow W.heap.size 44 10 (.slice oa ln oc) ln cs := by rw [hw12]; exact hHO
        have hHR : RelS w12 (fun k => (k < W.heap.size + 2 ∨ k = kb' ∨ k = nb' ∨ k = sb') ∨ (Value.slice oa ln oc).ownBlock = some k) cs l := by rw [hw12]; exact hHR
        have hgr : w12.grownBy w11 (Value.slice oa ln oc).ownBlock := by rw [hw12]; exact HGR.out.1
        have hlc : (Value.slice qa (ln + 1) qc).ownBlock = (Value.slice oa ln oc).ownBlock ∨ (Value.slice qa (ln + 1) qc).ownBlock = some w12.heap.size := by rw [hw12]; exact HGR.out.2
        have how := HOW.out
        clear hw12
        have hl7 : kb' < wq.heap.size ∧ nb' < wq.heap.size ∧ sb' < wq.heap.size := ⟨HK7.out.blk.lt, HK7.out.nums.lt, HK7.out.same.lt⟩
        have hoq : ∀ k, (Value.slice oa ln oc).ownBlock = some k → k < wq.heap.size := fun k hk => by
          obtain ⟨cs', h1, _⟩ := HOQ.out
          rw [HLN.out] at hk
          exact (h1.lt k hk).2
        have hWw : W.heap.size + 2 ≤ wq.heap.size := by
          have h1 := HS.out.b1.lt
          have h2 := HM6.out.size
          have h3 := HM7.out.size
          omega
        have hsz : wq.heap.size ≤ w12.heap.size := by
          have h1 := HM8.out.size
          have h2 := HM9.out.size
          have h3 := HD.out.size
          have h4 := HM10.out.size
          have h5 := hHA.size
          omega
        have hmo : Mods (fun k => (Value.slice oa ln oc).ownBlock = some k) w12 w11 := Mods.of_grownBy hgr (fun k hk _ => hk)
        have hno : ∀ k, (Value.slice oa ln oc).ownBlock = some k → W.heap.size + 2 ≤ k ∧ k ≠ kb' ∧ k ≠ nb' ∧ k ≠ sb' := fun k hk => by
          have h1 := HCS3.out k hk
          omega
        have hW9 : Mods None W W9.drew := HS.out.mods.trans (HM69.out.trans HD.out)
        have hW10 : Mods None W w10 := hW9.trans' HM10.out (fun k hk hl => by have := HF7.out; omega)
        have hW11 : Mods None W w11 := (hW10.trans hHA).trans' hmo (fun k hk hl => by have := hno k hk; omega)
        refine ⟨?_, ((HK10.out.mods hHA (fun f => f) (fun f => f) (fun f => f)).mods hmo (fun e => (hno _ e).2.1 rfl) (fun e => (hno _ e).2.2.1 rfl) (fun e => (hno _ e).2.2.2 rfl)), by have := HN7.out; omega, ?_, HF7.out, hW11, ?_, ?_, ?_⟩
        · rw [List.append_assoc]
          exact hrun
        · refine outs_grow (w4 := w12) (cs := cs) (S1 := fun k => k < wq.heap.size) (av := .slice za zn zc) ?_ hHR HCS3.out ?_ ?_ ?_ ?_ hgr hlc
          · rw [← HLN.out]; exact hHO
          · refine (HZD.out.mods (HM10.out.mono fun k _ hk => ?_) (fun _ _ k => k)).mods (hHA.mono fun _ _ f => f.elim) (fun _ _ k => k)
            show k < wq.heap.size
            omega
          · intro k hk
            rcases hk with hk | hk
            · show k < wq.heap.size
              omega
            · exact hoq k hk
          · intro k hk
            omega
          · rw [← HLN.out]; exact how
        · have h1 := ((HS.out.b0.mods HM69.out (fun f => f)).mods HD.out (fun f => f)).mods HM10.out (fun e => by have := HF7.out; omega)
          exact (h1.mods hHA (fun f => f)).mods hmo (fun e => by have := hno _ e; omega)
        · have h1 := ((HS.out.b1.mods HM69.out (fun f => f)).mods HD.out (fun f => f)).mods HM10.out (fun e => by have := HF7.out; omega)
          exact (h1.mods hHA (fun f => f)).mods hmo (fun e => by have := hno _ e; omega)
        · have := HS.out.len
          simp only [List.length_append, List.length_singleton]
          omega
    · obtain rfl : i = sn := by omega
      have hpi : ¬ (i : Int) < (i : Int) := by omega
      have g0 := HS.out.b0.cell (i := 0) rfl
      have g1 := HS.out.b0.cell (i := 1) rfl
      have g2 := HS.out.b0.cell (i := 2) rfl
      have g3 := HS.out.b0.cell (i := 3) rfl
      have z3 := HS.out.b0.free 3
      have q0 := HS.out.b1.cell (i := 0) rfl
      have q1 := HS.out.b1.cell (i := 1) rfl
      have q2 := HS.out.b1.cell (i := 2) rfl
      have q3 := HS.out.b1.cell (i := 3) rfl
      have f0 := HS.out.b1.free 0
      have f1 := HS.out.b1.free 1
      have f2 := HS.out.b1.free 2
      have f3 := HS.out.b1.free 3
      go_wp2_with fail
      clear g0 g1 g2 g3 z3 q0 q1 q2 q3 f0 f1 f2 f3 hpi
      obtain ⟨hB, hm⟩ := fn_end HS.out.b0 HS.out.b1 (.slice oa l.length oc)
      have hl : l = knownS Kn.none F.steps := by
        have h := HS.out.run
        rw [HSN.out, List.drop_length] at h
        simpa [knownS] using h
      have hmw : Mods None W (((((wr.setCell ⟨W.heap.size, 3, none⟩ (.slice oa l.length oc)).setCell ⟨W.heap.size + 1, 0, none⟩ (.string ⟨F.name.toArray⟩)).setCell ⟨W.heap.size + 1, 1, none⟩ (.int .i64 F.params)).setCell ⟨W.heap.size + 1, 2, none⟩ (.slice ta tn tc)).setCell ⟨W.heap.size + 1, 3, none⟩ (.slice oa l.length oc)) := HS.out.mods.trans' hm (fun k hk hl => by omega)
      have hst := (HS.out.outs.at_).mods (T := S) (hm.mono fun k _ hk => Or.inl (by omega)) (fun k _ hk => Or.inl (by have := HH.out.1 k hk; omega))
      refine bodyPost_ret (v := .agg #[.string ⟨F.name.toArray⟩, .int .i64 F.params, .slice ta tn tc, .slice oa l.length oc]) (results_cell_row (P := Tryd.prog) Tryd.results40 _ _ (W.heap.size + 1) 35 _ (0, 0) _ rfl hB Tryd.underlying35 rfl (by kernel_rfl)) rfl ?_
      rw [hl] at hst
      rw [HTN.out, hl]
      exact ⟨_, rfl, ⟨ta, tc, oa, oc, rfl, HTY.out.mods (by rw [hl, HTN.out] at hmw; exact hmw.mono fun _ _ f => f.elim) (fun _ _ k => k), by rw [HTN.out] at hst; exact hst⟩, by rw [hl, HTN.out] at hmw; exact hmw⟩
end Go.Proofs.YtoajcbfejplfbaaDoor.MidP

/- The document's reader: what stands first. Printed by mkreff.py. Conditions: what is read within is read so. -/
import Derived.Test.YtdgedlhefjmcpaaGreatDoorRefArgs
namespace Go.Proofs.YtdgedlhefjmcpaaGreatDoor.TreeP.R
open Go.RowKit Go.Proofs.YtdgedlhefjmcpaaGreatDoor.Wo Go.Proofs.YtdgedlhefjmcpaaGreatDoor.TreeP
set_option linter.unusedVariables false
set_option linter.unusedSimpArgs false
set_option maxRecDepth 100000 in
set_option maxHeartbeats 2400000 in
theorem first_word (f : Nat) (hA : AloneC f) (hG : ArgsC f) {b : Nat} {S : Nat → Prop} {deep : Nat} {ts : List Tok} {W : World} {x : Except (Int × Int) (Ex × List Tok)} (hd : deep ≤ 13) (h : Rd W b S ts) (hx : firstF (f + 1) deep ts = some x) (hn : headKind ts ≠ 2) :
    Calls Tryz.prog 156 #[.pointer (some ⟨b, 0, none⟩), .int .i64 deep] W (Got (· = b) W b S IsPtr (ExIs S) (some x)) := by
  simp only [firstF] at hx
  rw [if_neg hn] at hx
  have hd0 : 0 ≤ (deep : Int) ∧ (deep : Int) ≤ 13 := by omega
  have HD := Lib.hid hd
  have HR := Lib.hid h
  obtain ⟨g, o, c, hp⟩ := h.par
  obtain ⟨t, rr, hts⟩ := ends_cons hp.ends
  rw [hts] at hp
  obtain ⟨tk, tt, ta⟩ := t
  have e1 : headKind ts = tk := by rw [hts]; rfl
  have e3 : headAt ts = ta := by rw [hts]; rfl
  rw [e1] at hn
  rw [e3] at hx
  have hl := hp.cl
  have hk := hp.ck
  have ht := hp.ct
  have ha := hp.ca
  simp only at hk ht ha
  have hcap := hp.cap
  have hmax := hp.max
  simp only [List.length_cons] at hcap
  have HX := Lib.hid hx
  have hb := h.base.has
  have HB0 := Lib.hid (Blk.new W #[.int .i64 tk, .string ⟨tt.toArray⟩, .int .i64 ta] 95)
  have HM0 := Lib.hid ((Mods.refl (· = b) W).alloc (.cells #[.int .i64 tk, .string ⟨tt.toArray⟩, .int .i64 ta] 95))
  have HR0 := Lib.hid (HR.out.quiet ((Mods.refl None W).alloc (.cells #[.int .i64 tk, .string ⟨tt.toArray⟩, .int .i64 ta] 95)))
  have hne : Hid (¬ W.heap.size = b) := Lib.hid (by have := HR.out.base.old b hb; omega)
  have hkb : (tk == 2) = false := by simpa using hn
  clear hp hb hts e1 e3 hx hd HR h
  go_enter Tryz.func156, Tryz.ntmps156
  go_wp2_with fail
  go_at_call 78
  refine see_of (s := [40]) HM0 HR0 HX ?_ ?_
  · clear HX
    rintro - HX w1 HR1 - HM1
    go_wp2_with fail
    go_at_call 110
    refine tail_of HM1 HR1 HX (fun y hy => hA b S deep ts _ y HD.out HR1.out hy) ?_ ?_
    · rintro n a rfl xv w ⟨p, rfl⟩ HB - HM2
      go_wp2
      go_ret
      exact ⟨_, rfl, ⟨_, rfl⟩, HB.out, HM2.out⟩
    rintro v r rfl xv w hv HR2 - HM2
    have HV := Lib.hid hv
    clear hv HX
    go_wp2
    go_ret
    exact ⟨_, rfl, HV.out, HR2.out.par, HM2.out⟩
  clear HX
  rintro - HX w1 HR1 hm1 HM1
  have HB1 := Lib.hid (HB0.out.mods hm1.out (fun f => f))
  clear HB0 HM0 HR0 hm1 hl hk ht ha
  go_wp2_with fail
  go_at_call 46
  refine take_of (s := kNew) HM1 HR1 HX ?_ ?_
  · clear HX
    rintro - HX w2 HR2 hm2 HM2
    have hc2 := (HB1.out.mods hm2.out hne.out).cell (i := 2) rfl
    have HRd := Lib.hid (HR2.out.quiet (Mods.refl None w2).drew)
    have HMd := Lib.hid HM2.out.drew
    clear hm2 HB1 HR1 HM1
    go_wp2_with fail
    rcases bind_cases HX with ⟨n, a, hy, rfl⟩ | ⟨v, r, hy, HX2⟩
    · have HC := Lib.hid (hA b S deep ts.tail _ _ HD.out HRd.out hy)
      clear hy HX
      go_region_held3 (fun w' => w'.cell? ⟨W.heap.size, 2, none⟩ = some (.int .i64 ta))
        (first | exact hc2 | assumption | exact hm3.cellOf ‹_› hne.out | exact al_cell ‹_›)
        ((first | (go_at_call 110; refine HC.out.mono ?_; rintro e w3 ⟨xv, rfl, ⟨p3, rfl⟩, hb3, hm3⟩)))
      all_goals
        have HB3 := Lib.hid hb3
        have HM3 := Lib.hid (HMd.out.trans hm3)
        clear hb3 hm3
        go_wp2
        go_ret
        exact ⟨_, rfl, ⟨_, rfl⟩, HB3.out.quiet ((Mods.refl _ _).alloc _), HM3.out.alloc _⟩
    · have HC := Lib.hid (hA b S deep ts.tail _ _ HD.out HRd.out hy)
      clear hy HX
      obtain rfl := (Option.some.inj HX2.out).symm
      go_region_held3 (fun w' => w'.cell? ⟨W.heap.size, 2, none⟩ = some (.int .i64 ta))
        (first | exact hc2 | assumption | exact hm3.cellOf ‹_› hne.out | exact al_cell ‹_›)
        ((first | (go_at_call 110; refine HC.out.mono ?_; rintro e w3 ⟨y3, rfl, hv3, hp3, hm3⟩; obtain ⟨g4, rfl⟩ := ExAt.ptr hv3)))
      all_goals
        have HR3 := Lib.hid (HRd.out.next hp3 hm3)
        have HV3 := Lib.hid (show ExAt w3 S v _ from hv3)
        have HM3 := Lib.hid (HMd.out.trans hm3)
        clear hp3 hm3 hv3
        go_wp2
        go_ret
        refine ⟨_, rfl, ?_, HR3.out.par.mods ((Mods.refl _ _).alloc _), HM3.out.alloc _⟩
        simp only [ExIs, ExAt]
        exact ⟨_, Node.new HR3.out.base.old _, HV3.out.mods ((Mods.refl _ _).alloc _)⟩
  clear HX
  rintro - HX w2 HR2 hm2 HM2
  have HB2 := Lib.hid (HB1.out.mods hm2.out (fun f => f))
  clear HB1 HM1 HR1 hm2
  go_wp2_with fail
  go_at_call 46
  refine take_of (s := kLen) HM2 HR2 HX ?_ ?_
  · clear HX
    rintro - HX w2 HR2 hm2 HM2
    have hc2 := (HB2.out.mods hm2.out hne.out).cell (i := 2) rfl
    have HRd := Lib.hid (HR2.out.quiet (Mods.refl None w2).drew)
    have HMd := Lib.hid HM2.out.drew
    clear hm2 HB2 HR2 HM2
    go_wp2_with fail
    rcases bind_cases HX with ⟨n, a, hy, rfl⟩ | ⟨v, r, hy, HX2⟩
    · have HC := Lib.hid (hA b S deep ts.tail _ _ HD.out HRd.out hy)
      clear hy HX
      go_region_held3 (fun w' => w'.cell? ⟨W.heap.size, 2, none⟩ = some (.int .i64 ta))
        (first | exact hc2 | assumption | exact hm3.cellOf ‹_› hne.out | exact al_cell ‹_›)
        ((first | (go_at_call 110; refine HC.out.mono ?_; rintro e w3 ⟨xv, rfl, ⟨p3, rfl⟩, hb3, hm3⟩)))
      all_goals
        have HB3 := Lib.hid hb3
        have HM3 := Lib.hid (HMd.out.trans hm3)
        clear hb3 hm3
        go_wp2
        go_ret
        exact ⟨_, rfl, ⟨_, rfl⟩, HB3.out.quiet ((Mods.refl _ _).alloc _), HM3.out.alloc _⟩
    · have HC := Lib.hid (hA b S deep ts.tail _ _ HD.out HRd.out hy)
      clear hy HX
      obtain rfl := (Option.some.inj HX2.out).symm
      go_region_held3 (fun w' => w'.cell? ⟨W.heap.size, 2, none⟩ = some (.int .i64 ta))
        (first | exact hc2 | assumption | exact hm3.cellOf ‹_› hne.out | exact al_cell ‹_›)
        ((first | (go_at_call 110; refine HC.out.mono ?_; rintro e w3 ⟨y3, rfl, hv3, hp3, hm3⟩; obtain ⟨g4, rfl⟩ := ExAt.ptr hv3)))
      all_goals
        have HR3 := Lib.hid (HRd.out.next hp3 hm3)
        have HV3 := Lib.hid (show ExAt w3 S v _ from hv3)
        have HM3 := Lib.hid (HMd.out.trans hm3)
        clear hp3 hm3 hv3
        go_wp2
        go_ret
        refine ⟨_, rfl, ?_, HR3.out.par.mods ((Mods.refl _ _).alloc _), HM3.out.alloc _⟩
        simp only [ExIs, ExAt]
        exact ⟨_, Node.new HR3.out.base.old _, HV3.out.mods ((Mods.refl _ _).alloc _)⟩
  clear HX
  rintro - HX w3 HR3 hm3 HM3
  have HB3 := Lib.hid (HB2.out.mods hm3.out (fun f => f))
  clear HB2 HM2 HR2 hm3
  go_wp2_with fail
  go_at_call 46
  refine take_of (s := kInput) HM3 HR3 HX ?_ ?_
  · clear HX
    rintro - HX w5 HR5 hm5 HM5
    have HC5 := Lib.hid (HB3.out.mods hm5.out hne.out)
    clear hm5 HB3 HM3 HR3
    go_wp2_with fail
    go_at_call 44
    refine must_of (s := [40]) HM5 HR5 HX ?_ ?_
    · rintro n a rfl w6 HB6 hm6 HM6
      have HC6 := Lib.hid (HC5.out.mods hm6.out hne.out)
      clear hm6
      go_wp2_with fail
      go_at_call 44
      refine mustb_of (s := [41]) HM6 HB6 ?_
      rintro w7 HB7 hm7 HM7
      have hc7 := (HC6.out.mods hm7.out (fun f => f)).cell (i := 2) rfl
      clear hm7
      go_wp2
      go_ret
      exact ⟨_, rfl, ⟨_, rfl⟩, HB7.out.quiet ((Mods.refl _ _).alloc _), HM7.out.alloc _⟩
    clear HX
    rintro r3 - HX w6 HR6 hm6 HM6
    have HC6 := Lib.hid (HC5.out.mods hm6.out hne.out)
    clear hm6
    go_wp2_with fail
    go_at_call 44
    refine must_of (s := [41]) HM6 HR6 HX ?_ ?_
    · rintro n a rfl w7 HB7 hm7 HM7
      have hc7 := (HC6.out.mods hm7.out hne.out).cell (i := 2) rfl
      clear hm7
      go_wp2
      go_ret
      exact ⟨_, rfl, ⟨_, rfl⟩, HB7.out.quiet ((Mods.refl _ _).alloc _), HM7.out.alloc _⟩
    clear HX
    rintro r4 - HX w7 HR7 hm7 HM7
    have hc7 := (HC6.out.mods hm7.out hne.out).cell (i := 2) rfl
    clear hm7
    obtain rfl := (Option.some.inj HX.out).symm
    go_wp2
    go_ret
    refine ⟨_, rfl, ?_, HR7.out.par.mods ((Mods.refl _ _).alloc _), HM7.out.alloc _⟩
    simp only [ExIs, ExAt]
    exact Node.new HR7.out.base.old _
  clear HX
  rintro - HX w4 HR4 hm4 HM4
  have HB4 := Lib.hid (HB3.out.mods hm4.out (fun f => f))
  clear HB3 HM3 HR3 hm4
  go_wp2_with fail
  go_at_call 45
  refine name_of HM4 HR4 HX ?_ ?_
  · rintro n a rfl s w5 - HB5 hm5 HM5
    have HC5 := Lib.hid (HB4.out.mods hm5.out hne.out)
    clear hm5
    go_wp2_with fail
    go_at_call 78
    refine seeb_of (s := [40]) HM5 HB5 ?_
    rintro w6 HB6 hm6 HM6
    have hc6 := (HC5.out.mods hm6.out (fun f => f)).cell (i := 2) rfl
    clear hm6
    go_wp2
    go_ret
    exact ⟨_, rfl, ⟨_, rfl⟩, HB6.out.quiet ((Mods.refl _ _).alloc _), HM6.out.alloc _⟩
  clear HX
  rintro s r2 - HX w5 HR5 hm5 HM5
  have HC5 := Lib.hid (HB4.out.mods hm5.out hne.out)
  clear hm5 HB4 HR4 HM4
  go_wp2_with fail
  go_at_call 78
  refine see_of (s := [40]) HM5 HR5 HX ?_ ?_
  · clear HX
    rintro - HX w6 HR6 hm6 HM6
    have hc2 := (HC5.out.mods hm6.out (fun f => f)).cell (i := 2) rfl
    have HRd := Lib.hid (HR6.out.quiet (Mods.refl None w6).drew)
    have HMd := Lib.hid HM6.out.drew
    clear hm6 HC5
    go_wp2_with fail
    rcases bind_cases HX with ⟨n, a, hy, rfl⟩ | ⟨v, r, hy, HX2⟩
    · have HC := Lib.hid (hG b S deep r2 _ _ HD.out HRd.out hy)
      clear hy HX
      go_region_held3 (fun w' => w'.cell? ⟨W.heap.size, 2, none⟩ = some (.int .i64 ta))
        (first | exact hc2 | assumption | exact hm3.cellOf ‹_› hne.out | exact al_cell ‹_›)
        ((first | (go_at_call 137; refine HC.out.mono ?_; rintro e w3 ⟨xv, rfl, ⟨pa, pn, pc, rfl⟩, hb3, hm3⟩)))
      all_goals
        have HB3 := Lib.hid hb3
        have HM3 := Lib.hid (HMd.out.trans hm3)
        clear hb3 hm3
        go_wp2
        go_ret
        exact ⟨_, rfl, ⟨_, rfl⟩, HB3.out.quiet ((Mods.refl _ _).alloc _), HM3.out.alloc _⟩
    · have HC := Lib.hid (hG b S deep r2 _ _ HD.out HRd.out hy)
      clear hy HX
      obtain rfl := (Option.some.inj HX2.out).symm
      go_region_held3 (fun w' => w'.cell? ⟨W.heap.size, 2, none⟩ = some (.int .i64 ta))
        (first | exact hc2 | assumption | exact hm3.cellOf ‹_› hne.out | exact al_cell ‹_›)
        ((first | (go_at_call 137; refine HC.out.mono ?_; rintro e w3 ⟨y3, rfl, ⟨vs, hr3, hv3⟩, hp3, hm3⟩; obtain ⟨oa, on, oc, rfl⟩ := RowAt.form hr3)))
      all_goals
        have HR3 := Lib.hid (HRd.out.next hp3 hm3)
        have HW3 := Lib.hid hr3
        have HV3 := Lib.hid hv3
        have HM3 := Lib.hid (HMd.out.trans hm3)
        clear hp3 hm3 hv3 hr3
        go_wp2
        go_ret
        refine ⟨_, rfl, ?_, HR3.out.par.mods ((Mods.refl _ _).alloc _), HM3.out.alloc _⟩
        simp only [ExIs, ExAt]
        exact ⟨_, _, Node.new HR3.out.base.old _, HW3.out.mods ((Mods.refl _ _).alloc _) (fun _ _ h => h), ExsAt.modsTo ((Mods.refl _ _).alloc _) (fun _ _ h => h) _ _ HV3.out⟩
  · clear HX
    rintro - HX w6 HR6 hm6 HM6
    have hc6 := (HC5.out.mods hm6.out (fun f => f)).cell (i := 2) rfl
    clear hm6
    obtain rfl := (Option.some.inj HX.out).symm
    go_wp2
    go_ret
    refine ⟨_, rfl, ?_, HR6.out.par.mods ((Mods.refl _ _).alloc _), HM6.out.alloc _⟩
    simp only [ExIs, ExAt]
    exact Node.new HR6.out.base.old _
set_option maxRecDepth 100000 in
set_option maxHeartbeats 1600000 in
theorem first_num {f : Nat} {b : Nat} {S : Nat → Prop} {deep : Nat} {ts : List Tok} {W : World} {x : Except (Int × Int) (Ex × List Tok)} (h : Rd W b S ts) (hx : firstF (f + 1) deep ts = some x) (hn : headKind ts = 2) :
    Calls Tryz.prog 156 #[.pointer (some ⟨b, 0, none⟩), .int .i64 deep] W (Got (· = b) W b S IsPtr (ExIs S) (some x)) := by
  simp only [firstF] at hx
  rw [if_pos hn] at hx
  have HR := Lib.hid h
  have hg8 := h.base.rng
  obtain ⟨g, o, c, hp⟩ := h.par
  obtain ⟨t, rr, hts⟩ := ends_cons hp.ends
  rw [hts] at hp
  obtain ⟨tk, tt, ta⟩ := t
  have e1 : headKind ts = tk := by rw [hts]; rfl
  have e2 : headText ts = tt := by rw [hts]; rfl
  have e3 : headAt ts = ta := by rw [hts]; rfl
  have e4 : ts.tail = rr := by rw [hts]; rfl
  rw [e1] at hn
  subst hn
  rw [e2, e3, e4] at hx
  have hl := hp.cl
  have hk := hp.ck
  have ht := hp.ct
  have ha := hp.ca
  simp only at hk ht ha
  have hcap := hp.cap
  have hmax := hp.max
  simp only [List.length_cons] at hcap
  have hnum : tt ≠ [] ∧ tt.all digitB = true := by
    rcases hp.forms _ List.mem_cons_self with ⟨h, _⟩ | ⟨_, h⟩ | ⟨h, _⟩ | ⟨h, _⟩
    · cases h
    · exact h
    · cases h
    · cases h
  have hsm := hp.small _ List.mem_cons_self
  simp only at hsm
  have HB0 := Lib.hid (Blk.new W #[.int .i64 2, .string ⟨tt.toArray⟩, .int .i64 ta] 95)
  have hMA := Lib.hid ((Mods.refl None W).alloc (.cells #[.int .i64 2, .string ⟨tt.toArray⟩, .int .i64 ta] 95))
  have HP := Lib.hid hp
  have hmore := more_left hp (by simp)
  have hi := int_digits hnum.1 hnum.2
  by_cases h63 : numP tt < 9223372036854775808
  · rw [if_pos h63] at hx hi
    obtain rfl := (Option.some.inj hx).symm
    have hN : 0 ≤ (numP tt : Int) ∧ (numP tt : Int) < 9223372036854775808 := by omega
    obtain ⟨n, hn⟩ : ∃ n : Int, n = (numP tt : Int) := ⟨_, rfl⟩
    rw [← hn] at hi hN ⊢
    have HC := Lib.hid (fun (w : World) => Tryz.strconv_ParseInt_10_at64_ok ⟨tt.toArray⟩ (by simp only [ByteArray.size, List.size_toArray]; omega) n (by simpa using hi) w)
    clear hp hg8 hts e1 e2 e3 e4 hx hi h63 hnum hsm hn h
    go_enter Tryz.func156, Tryz.ntmps156
    go_wp2_with (go_at_call 172; refine (HC.out _).mono ?_; rintro e w1 ⟨rfl, hw⟩; have hM1 : Mods None (W.alloc (.cells #[.int .i64 2, .string ⟨tt.toArray⟩, .int .i64 ta] 95)) w1 := (by rcases hw with rfl | ⟨t, rfl⟩; exact Mods.refl _ _; exact Mods.of_below (Lib.bytesWorld_below _ _ _)); have HMA := Lib.hid (hMA.out.trans hM1); clear hw; have B := HB0.out.mods hM1 (fun f => f); have c1 := B.cell (i := 2) rfl; have hl2 := HMA.out.cellOf hl (fun f => f); have hf2 := (HP.out.blk.mods HMA.out (fun f => f)).free 0)
    go_ret
    have HQ := (HP.out.mods HMA.out (fun f => f) (fun f => f)).tail (by simp)
    have hS : Mods (· = b) w1 (w1.setCell ⟨b, 0, none⟩ (.slice (some ⟨g, o + 3, none⟩) rr.length (c - 1))) := Mods.setCell (S := (· = b)) (p := ⟨b, 0, none⟩) (Mods.refl _ _) (fun _ => rfl) _
    have HR2 := (HR.out.quiet HMA.out).next (⟨_, _, _, HQ⟩ : Par _ b rr) hS
    refine ⟨_, rfl, ?_, HR2.par.mods ((Mods.refl _ _).alloc _), ((HMA.out.mono fun _ _ f => f.elim).trans hS).alloc _⟩
    simp only [ExIs, ExAt]
    have hsz : (w1.setCell ⟨b, 0, none⟩ (.slice (some ⟨g, o + 3, none⟩) rr.length (c - 1))).heap.size = w1.heap.size := by simp [World.setCell]
    have hnode := Node.new HR2.base.old #[.int .i64 1, .int .i64 ta, .int .i64 n, .string ⟨#[]⟩, .string ⟨#[]⟩, .pointer none, .pointer none, .slice none 0 0]
    rw [hsz] at hnode
    exact hnode
  · rw [if_neg h63] at hx hi
    have HX := Lib.hid hx
    obtain ⟨hgl, te, pe, hge⟩ := hg8
    have HC := Lib.hid (fun (w : World) (hv : w.cell? ⟨11, 0, none⟩ = some (.iface te pe)) => Tryz.strconv_ParseInt_10_at64_range ⟨tt.toArray⟩ (by simp only [ByteArray.size, List.size_toArray]; omega) (by simpa using hi) _ w hv (Or.inr ⟨te, pe, rfl⟩))
    have HG := Lib.hid hge
    clear hp hts e1 e2 e3 e4 hx hi h63 hnum hsm hgl hge h
    go_enter Tryz.func156, Tryz.ntmps156
    go_wp2_with (go_at_call 172; refine (HC.out _ (hMA.out.cellOf HG.out (fun f => f))).mono ?_; rintro e w1 ⟨N, rfl, hN1, hN2, hbel⟩; have hM1 : Mods None (W.alloc (.cells #[.int .i64 2, .string ⟨tt.toArray⟩, .int .i64 ta] 95)) w1 := Mods.of_below hbel; have HMA := Lib.hid (hMA.out.trans hM1); clear hN1 hN2 hbel)
    go_at_call 43
    refine fail_of (Lib.hid (HMA.out.mono (T := (· = b)) fun _ _ f => f.elim)) (Lib.hid (HR.out.quiet HMA.out)) HX (Or.inr rfl) ?_
    rintro n a rfl w HB - HM1
    go_wp2
    go_ret
    exact ⟨_, rfl, ⟨_, rfl⟩, HB.out, HM1.out⟩
structure AllC (f : Nat) : Prop where
  expr : ExprC f
  unary : UnaryC f
  first : FirstC f
  alone : AloneC f
  args : ArgsC f
theorem first_of (f : Nat) (hA : AloneC f) (hG : ArgsC f) : FirstC (f + 1) := by
  intro b S deep ts W x hd h hx
  by_cases hn : headKind ts = 2
  · exact first_num h hx hn
  · exact first_word f hA hG hd h hx hn
theorem expr_of (f : Nat) (hU : UnaryC f) (hE : ∀ g, g ≤ f → ExprC g) : ExprC (f + 1) := by
  intro b S level deep ts W x hl hd h hx
  by_cases h6 : level = 6
  · subst h6
    exact six_of hU hd h hx
  · exact low_of hE (by omega) hd h hx
theorem exprs : ∀ f, AllC f := by
  intro f
  induction f using Nat.strongRecOn with
  | ind f ih =>
    cases f with
    | zero => exact ⟨fun _ _ _ _ _ _ _ _ _ _ h => by simp [exprF] at h, fun _ _ _ _ _ _ _ _ h => by simp [unaryF] at h, fun _ _ _ _ _ _ _ _ h => by simp [firstF] at h, fun _ _ _ _ _ _ _ _ h => by simp [aloneF] at h, fun _ _ _ _ _ _ _ _ h => by simp [argsF] at h⟩
    | succ f =>
      have hE : ∀ g, g ≤ f → ExprC g := fun g hg => (ih g (by omega)).expr
      have h := ih f (by omega)
      exact ⟨expr_of f h.unary hE, one_of f h.unary h.first hE, first_of f h.alone h.args, round_of f h.expr, args_of f hE⟩
end Go.Proofs.YtdgedlhefjmcpaaGreatDoor.TreeP.R

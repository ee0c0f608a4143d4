/- The reference's reading of an instruction: ReadInst. Conditions: the tables lie. -/
import Derived.Test.YtodgkbcgdbhpeaaGreatDoorAsRp
import Derived.Deep.RegionHeld3
namespace Go.Proofs.YtodgkbcgdbhpeaaGreatDoor.AsmP
open Go.RowKit Go.Proofs.YtodgkbcgdbhpeaaGreatDoor.WordP Go.Proofs.YtodgkbcgdbhpeaaGreatDoor.Wo Go.Proofs.YtodgkbcgdbhpeaaGreatDoor.RefP
set_option linter.unusedVariables false
set_option linter.unusedSimpArgs false
set_option maxRecDepth 100000 in
set_option maxHeartbeats 64000000 in
theorem ref_inst (u : List UInt8) (hu : u.length ≤ 1000000) (h0 : u ≠ []) (h58 : Lib.hasSuffix u [58] = false) (W : World) (hB : Base W) : Calls Tryz.prog 33 #[str u] W (InstP u W) := by
  have HB := Lib.hid hB
  obtain ⟨⟨nm, q, more⟩, hcut⟩ : ∃ r, cutL 32 u = r := ⟨_, rfl⟩
  have HLT := Lib.hid (lineT_op h58 h0 hcut)
  obtain ⟨rest, hrest⟩ : ∃ rest, rest = (if more = true then Lib.trimB q 32 else []) := ⟨_, rfl⟩
  have HRE := Lib.hid hrest
  have HU := Lib.hid hu
  have HCUT := Lib.hid hcut
  clear hB hu h58 hrest hcut
  obtain ⟨bx, hbx⟩ : ∃ bx, bx = W.heap.size := ⟨_, rfl⟩
  obtain ⟨W1, hW1⟩ : ∃ W1, W1 = W.alloc (.cells #[.int .i64 0, .int .i64 0, .int .i64 0, .int .i64 0, .int .i64 0] 30) := ⟨_, rfl⟩
  have HM1 : Hid (Mods None W W1) := Lib.hid (by rw [hW1]; exact (Mods.refl _ _).alloc _)
  have HBX1 : Hid (Blk W1 bx [.int .i64 0, .int .i64 0, .int .i64 0, .int .i64 0, .int .i64 0] 30) := Lib.hid (by rw [hW1, hbx]; exact Blk.new W _ _)
  have HBX := Lib.hid hbx
  have hIX : Calls Tryz.prog 36 #[.string ⟨u.toArray⟩, .int .u8 32] W1 fun e w => e = .returned (.int .i64 (Lib.indexByte u 32)) ∧ w = W1 := ref_index u 32 W1
  have HIX := Lib.hid hIX
  clear hIX
  unfold str
  go_enter Tryz.func33, Tryz.ntmps33
  go_wp2_with fail
  rw [← hW1, ← hbx]
  clear hW1 hbx
  refine HIX.out.mono ?_
  rintro e w' ⟨rfl, hw'⟩
  rw [hw']
  clear hw' HIX
  obtain ⟨k, hk⟩ : ∃ k, k = Lib.indexByte u 32 := ⟨_, rfl⟩
  have HK := Lib.hid hk
  rw [← hk]
  clear hk
  go_upto_if 22 with (fail)
  go_cut [3, 5, 6] (fun tv nv rv w => tv = .string ⟨#[]⟩ ∧ nv = .string ⟨nm.toArray⟩ ∧ rv = .string ⟨rest.toArray⟩ ∧ Hid (Mods None W1 w) ∧ Hid (more = true → rest ≠ []))
  case first =>
    by_cases h32 : 32 ∈ u
    · as_aux_lemma =>
        obtain ⟨a, b, hab, hn⟩ := first_at u h32
        have hc := HCUT.out
        rw [hab, cutL_app hn] at hc
        obtain ⟨rfl, rfl, rfl⟩ : a = nm ∧ b = q ∧ true = more := by
          cases hc
          exact ⟨rfl, rfl, rfl⟩
        have hk : k = (a.length : Int) := by rw [HK.out, hab, indexB_app a b hn]
        have hal : a.length ≤ u.length := by rw [hab]; simp
        have hul : (⟨u.toArray⟩ : ByteArray).size = u.length := size_str u
        have he1 : (⟨u.toArray⟩ : ByteArray).extract 0 a.length = ⟨a.toArray⟩ := by rw [extract_take, hab, List.take_left' rfl]
        have he2 : (⟨u.toArray⟩ : ByteArray).extract a.length u.length = ⟨(32 :: b).toArray⟩ := by rw [extract_drop, hab, List.drop_left' rfl]
        have hk0 : k ≥ 0 := by omega
        have hkl : k ≤ u.length := by omega
        subst hk
        have HAB := Lib.hid (And.intro hab hn)
        have HE := Lib.hid (And.intro he1 he2)
        clear hab hn hc h32 he1 he2
        have hre : rest = Lib.trimB b 32 := HRE.out
        have hbl : (32 :: b).length ≤ 1000000 := by
          have h1 := HAB.out.1
          have h2 := HU.out
          rw [h1] at h2
          simp at h2 ⊢
          omega
        have HRS := Lib.hid hre
        have HBL := Lib.hid hbl
        clear hre hbl
        go_wp2_with fail
        by_cases hr : rest = []
        · have HR0 := Lib.hid hr
          have hr0 : (rest == []) = true := by rw [hr]; rfl
          clear hr
          go_region_law (go_simp; go_at_call 32; rw [HE.out.2]; refine (trim1_any (32 :: b) HBL.out W1.drew).mono ?_; rintro e w2 ⟨rfl, hm2⟩; rw [trimB_32, ← HRS.out]; have HM2 := Lib.hid ((Mods.refl None W1).drew.trans hm2); clear hm2)
          all_goals
            unfold str
            have HBX2 := HBX1.out.mods HM2.out (fun f => f)
            have d0 := HBX2.cell (i := 0) rfl
            have d1 := HBX2.cell (i := 1) rfl
            have d2 := HBX2.cell (i := 2) rfl
            have d3 := HBX2.cell (i := 3) rfl
            have d4 := HBX2.cell (i := 4) rfl
            have f0 := HBX2.free 0
            have f1 := HBX2.free 1
            have f2 := HBX2.free 2
            have f3 := HBX2.free 3
            have f4 := HBX2.free 4
            go_wp2_with fail
            obtain ⟨wz, hwz, hz⟩ := set_fiveE HBX2 (.int .i64 0) (.int .i64 0) (.int .i64 0) (.int .i64 0) (.int .i64 0)
            rw [← hwz]
            clear hwz
            have e0 := hz.1.cell (i := 0) rfl
            have e1 := hz.1.cell (i := 1) rfl
            have e2 := hz.1.cell (i := 2) rfl
            have e3 := hz.1.cell (i := 3) rfl
            have e4 := hz.1.cell (i := 4) rfl
            refine bodyPost_ret (v := .tuple #[.agg #[.int .i64 0, .int .i64 0, .int .i64 0, .int .i64 0, .int .i64 0], .string ⟨#[]⟩, .bool false]) (by simp [results, Tryz.results33, go_sem, e0, e1, e2, e3, e4]) rfl ?_
            refine ⟨⟨⟨0, 0, 0, 0, 0⟩, [], false, rfl, .inr ⟨rfl, ?_⟩⟩, (HM1.out.trans HM2.out).trans' hz.2 (fun k hk hw => by have := HBX.out; omega)⟩
            have hq := HRS.out
            rw [HR0.out] at hq
            rw [HLT.out, ← hq]
            simp only [if_true]
            split
            · rfl
            · rw [show splitL 44 [] = [[]] from rfl, parts_odd _ _ _ _ (fun h => parts_one _ h.symm)]
        · have hr0 : (rest == []) = false := by rw [beq_eq_false_iff_ne]; exact hr
          have HR0 := Lib.hid hr
          clear hr
          go_region_law (go_simp; go_at_call 32; rw [HE.out.2]; refine (trim1_any (32 :: b) HBL.out W1.drew).mono ?_; rintro e w2 ⟨rfl, hm2⟩; rw [trimB_32, ← HRS.out]; have HM2 := Lib.hid ((Mods.refl None W1).drew.trans hm2); clear hm2)
          all_goals
            unfold str
            go_wp2_with fail
            go_meet
            case rel => exact ⟨rfl, by rw [HE.out.1], rfl, HM2, Lib.hid (fun _ => HR0.out)⟩
    · as_aux_lemma =>
        have hc := HCUT.out
        rw [cutL_none h32] at hc
        obtain ⟨rfl, rfl, rfl⟩ : u = nm ∧ [] = q ∧ false = more := by
          cases hc
          exact ⟨rfl, rfl, rfl⟩
        have hk : k = -1 := by rw [HK.out, indexB_none u h32]
        have hk0 : ¬ k ≥ 0 := by omega
        subst hk
        have hre : rest = [] := HRE.out
        subst hre
        clear hc h32
        go_wp2_with fail
        go_meet
        case rel => exact ⟨rfl, rfl, rfl, Lib.hid (Mods.refl _ _), Lib.hid (fun h => by cases h)⟩
  case rest =>
    obtain ⟨w2, rfl⟩ : ∃ w2 : World, w2 = wc := ⟨_, rfl⟩
    obtain ⟨rfl, rfl, rfl, HM2, HNE⟩ := hcut
    have HMW2 := Lib.hid (HM1.out.trans HM2.out)
    have HBX2 := Lib.hid (HBX1.out.mods HM2.out (fun f => f))
    have hbz : bx < w2.heap.size := HBX2.out.lt
    have HBZ := Lib.hid hbz
    clear HM2 HBX1 HM1 HK hbz
    go_wp2_with fail
    go_loopw [8] (fun ov wr => ∃ k : Nat, 1 ≤ k ∧ k ≤ 40 ∧ ov = .int .i64 k ∧ Hid (Blk wr bx [.int .i64 (opX nm k), .int .i64 0, .int .i64 0, .int .i64 0, .int .i64 0] 30 ∧ Mods (fun k => k = bx) w2 wr)) (fun ov _ => (40 - intOf ov).toNat)
    case atStart => exact ⟨1, by omega, by omega, rfl, Lib.hid ⟨by rw [opX_one]; exact HBX2.out, Mods.refl _ _⟩⟩
    case round =>
      obtain ⟨k, hk1, hk2, rfl, HO⟩ := hrel
      by_cases hlt : k < 40
      · as_aux_lemma =>
          have hlt2 : (k : Int) < 40 := by omega
          by_cases h31 : k ≤ 31
          · have hF := RefP.form_yes (k : Int) (by omega) (by omega) wr
            obtain ⟨i, hi, hi1⟩ := op_fin (op := (k : Int)) (by omega) (by omega)
            have hn := names_same i hi1
            rw [← hi] at hn
            unfold RefP.formAgg at hF
            rw [hn] at hF
            obtain ⟨p, hp⟩ : ∃ p, p = opName (k : Int) := ⟨_, rfl⟩
            rw [← hp] at hF
            have HF := Lib.hid hF
            have HP : Hid (p = nm ↔ opOf nm = k) := Lib.hid (by rw [hp]; exact opOf_name (by omega) (by omega))
            clear hF hn hi hi1 hp
            go_wp2_with fail
            refine HF.out.mono ?_
            rintro e w3 ⟨rfl, hm3⟩
            have HB3 := Lib.hid (HO.out.1.mods hm3 (fun f => f))
            have HM3 := Lib.hid (HO.out.2.trans' hm3 (fun k hk => hk.elim))
            clear hm3 HF
            obtain ⟨w4, hw4⟩ : ∃ w4, w4 = w3.alloc (.cells #[.int .u8 (kindOf k), .int .u32 (lowOf k), .int .u32 (midOf k), .int .u32 (highOf k), .string ⟨p.toArray⟩] 87) := ⟨_, rfl⟩
            have HB4 := Lib.hid (HB3.out.alloc (.cells #[.int .u8 (kindOf k), .int .u32 (lowOf k), .int .u32 (midOf k), .int .u32 (highOf k), .string ⟨p.toArray⟩] 87))
            have HM4 := Lib.hid (HM3.out.alloc (.cells #[.int .u8 (kindOf k), .int .u32 (lowOf k), .int .u32 (midOf k), .int .u32 (highOf k), .string ⟨p.toArray⟩] 87))
            have hf4 := (Blk.new w3 #[.int .u8 (kindOf k), .int .u32 (lowOf k), .int .u32 (midOf k), .int .u32 (highOf k), .string ⟨p.toArray⟩] 87).cell (i := 4) rfl
            obtain ⟨fb, hfb⟩ : ∃ fb, fb = w3.heap.size := ⟨_, rfl⟩
            rw [← hw4] at HB4 HM4 hf4
            rw [← hfb] at hf4
            go_upto_region 11 with (fail)
            rw [← hw4, ← hfb]
            clear hw4 hfb
            have d0 := HB4.out.cell (i := 0) rfl
            have f0 := HB4.out.free 0
            by_cases he : p = nm
            · have hpe : (p == nm) = true := by rw [he]; exact beq_self_eq_true nm
              have HE := Lib.hid he
              clear he
              go_wp2_with fail
              exact ⟨⟨k + 1, by omega, by omega, by go_num, Lib.hid ⟨by rw [opX_hit hk1 (HP.out.1 HE.out)]; exact HB4.out.set 0 _, HM4.out.setCell (fun _ => rfl) _⟩⟩, by simp [intOf]; omega⟩
            · have hpe : (p == nm) = false := by rw [beq_eq_false_iff_ne]; exact he
              have HE := Lib.hid he
              clear he
              go_wp2_with fail
              exact ⟨⟨k + 1, by omega, by omega, by go_num, Lib.hid ⟨by rw [opX_miss (fun h => HE.out (HP.out.2 h))]; exact HB4.out, HM4.out⟩⟩, by simp [intOf]; omega⟩
          · have hF := RefP.form_no (k : Int) (by omega) wr
            have HF := Lib.hid hF
            clear hF
            go_wp2_with fail
            refine HF.out.mono ?_
            rintro e w3 ⟨rfl, hm3⟩
            have HB3 := Lib.hid (HO.out.1.mods hm3 (fun f => f))
            have HM3 := Lib.hid (HO.out.2.trans' hm3 (fun k hk => hk.elim))
            clear hm3 HF
            go_wp2_with fail
            exact ⟨⟨k + 1, by omega, by omega, by go_num, Lib.hid ⟨by rw [opX_miss (fun h => by have := (op_range nm).2; omega)]; exact HB3.out.alloc _, HM3.out.alloc _⟩⟩, by simp [intOf]; omega⟩
      · obtain rfl : k = 40 := by omega
        have hpi : ¬ ((40 : Nat) : Int) < 40 := by omega
        have HBX3 := Lib.hid HO.out.1
        have HM3 := Lib.hid (HMW2.out.trans' HO.out.2 (fun k hk hw => by have := HBX.out; omega))
        obtain ⟨op, hop⟩ : ∃ op, op = opX nm 40 := ⟨_, rfl⟩
        rw [← hop] at HBX3
        have hoe := opX_end nm
        rw [← hop] at hoe
        have HOP := Lib.hid hoe
        obtain ⟨ws, hws⟩ : ∃ ws, ws = wsR rest := ⟨_, rfl⟩
        have HWS := Lib.hid hws
        have HRL : Hid (rest.length ≤ 1000000) := Lib.hid (by
          rw [HRE.out]
          split
          · have := (cut_len HCUT.out HU.out).2
            have := trimB_len q 32
            omega
          · simp)
        clear HO hop hoe hws HBX2 HMW2 HBZ
        go_upto_if 52 with (fail)
        go_cut [11] (fun wv w => ∃ oa oc, wv = .slice oa ws.length oc ∧ Hid (WordsAt w bx oa ws) ∧ Hid (Mods None wr w))
        case first =>
          by_cases hr : rest = []
          · have hr0 : (!rest.isEmpty) = false := by rw [hr]; rfl
            have hw0 : ws = [] := by rw [HWS.out, wsR, if_pos hr]
            clear hr
            go_wp2_with fail
            all_goals first | (exfalso; have hh : (!rest.isEmpty) = true := by assumption
                               rw [hr0] at hh; cases hh; done) | skip
            go_meet
            case rel =>
              subst hw0
              exact ⟨none, 0, rfl, Lib.hid ⟨fun j w h => by simp at h, fun w h => by simp at h⟩, Lib.hid (Mods.refl _ _)⟩
          · have hr0 : (!rest.isEmpty) = true := by
              cases hq : rest with
              | nil => exact absurd hq hr
              | cons c r => rfl
            have hw0 : ws = splitL 44 rest := by rw [HWS.out, wsR, if_neg hr]
            have HW0 := Lib.hid hw0
            clear hr hw0
            go_wp2_with fail
            all_goals first | (exfalso; have hh : (!rest.isEmpty) = false := by assumption
                               rw [hr0] at hh; cases hh; done) | skip
            refine (split_any rest 44 HRL.out wr (HB.out.next HM3.out far_none)).mono ?_
            rintro e w4 ⟨rfl, hw4⟩
            go_wp2_with fail
            go_meet
            case rel =>
              rw [← HW0.out] at hw4 ⊢
              refine ⟨_, _, rfl, Lib.hid ⟨fun j w h => ⟨wr.heap.size, rfl, fun f => by have := HBX3.out.lt; omega, ?_⟩, fun w h => ?_⟩, Lib.hid (by first | exact (Mods.refl _ _).alloc _ | (rw [hw4]; exact (Mods.refl _ _).alloc _))⟩
              · try rw [hw4]
                exact (Blk.new wr (ws.map str).toArray 9).cell (by rw [List.toList_toArray, List.getElem?_map, h]; rfl)
              · rw [HW0.out] at h
                have := (splitL_len 44 rest).1 w h
                have := HRL.out
                omega
        case rest =>
          obtain ⟨w4, rfl⟩ : ∃ w4 : World, w4 = wc := ⟨_, rfl⟩
          obtain ⟨oa, oc, rfl, HWD, HM4⟩ := hcut
          have HBX4 := Lib.hid (HBX3.out.mods HM4.out (fun f => f))
          have HMW4 := Lib.hid (HM3.out.trans HM4.out)
          have HSH := Lib.hid (ref_shape op (by have := HOP.out; omega) w4)
          obtain ⟨form, hform⟩ : ∃ form, form = shapeOf op := ⟨_, rfl⟩
          rw [← hform] at HSH
          have HFO := Lib.hid hform
          obtain ⟨n, hn⟩ : ∃ n, n = ws.length := ⟨_, rfl⟩
          have HN := Lib.hid hn
          have d0 := HBX4.out.cell (i := 0) rfl
          rw [← hn]
          clear HM4 HM3 HBX3 hn hform
          go_wp2_with fail
          refine HSH.out.mono ?_
          rintro e w5 ⟨rfl, hm5⟩
          have HBX5 := Lib.hid (HBX4.out.mods hm5 (fun f => f))
          have HMW5 := Lib.hid (HMW4.out.trans hm5)
          have HWD5 := Lib.hid (HWD.out.next (hm5.mono (fun k _ f => f.elim)))
          clear hm5 HSH d0 HBX4 HMW4 HWD
          have d0 := HBX5.out.cell (i := 0) rfl
          have d1 := HBX5.out.cell (i := 1) rfl
          have d2 := HBX5.out.cell (i := 2) rfl
          have d3 := HBX5.out.cell (i := 3) rfl
          have d4 := HBX5.out.cell (i := 4) rfl
          have f0 := HBX5.out.free 0
          have f1 := HBX5.out.free 1
          have f2 := HBX5.out.free 2
          have f3 := HBX5.out.free 3
          have f4 := HBX5.out.free 4
          obtain ⟨pb, hpb⟩ : ∃ pb : ByteArray, pb = ⟨form.toArray⟩ := ⟨_, rfl⟩
          have hps : pb.size = form.length := by rw [hpb]; exact size_str _
          have HPB := Lib.hid (And.intro hpb hps)
          unfold str
          rw [← hpb]
          clear hpb hps
          rcases HOP.out with ⟨ho, hlo⟩ | ⟨ho, hlo, hhi⟩
          · as_aux_lemma =>
              subst ho
              have HLO := Lib.hid hlo
              clear hlo
              go_wp2_with fail
              obtain ⟨wz, hwz, hz⟩ := set_fiveE HBX5.out (.int .i64 0) (.int .i64 0) (.int .i64 0) (.int .i64 0) (.int .i64 0)
              rw [← hwz]
              clear hwz
              have e0 := hz.1.cell (i := 0) rfl
              have e1 := hz.1.cell (i := 1) rfl
              have e2 := hz.1.cell (i := 2) rfl
              have e3 := hz.1.cell (i := 3) rfl
              have e4 := hz.1.cell (i := 4) rfl
              refine bodyPost_ret (v := .tuple #[.agg #[.int .i64 0, .int .i64 0, .int .i64 0, .int .i64 0, .int .i64 0], .string ⟨#[]⟩, .bool false]) (by simp [results, Tryz.results33, go_sem, e0, e1, e2, e3, e4]) rfl ?_
              exact ⟨⟨⟨0, 0, 0, 0, 0⟩, [], false, rfl, .inr ⟨rfl, by rw [HLT.out, if_pos HLO.out]⟩⟩, HMW5.out.trans' hz.2 (fun k hk hw => by have := HBX.out; omega)⟩
          · have HLO := Lib.hid (And.intro hlo hhi)
            have hf0 : form = partsOf op := by rw [HFO.out, shapeOf, if_neg (by omega)]
            have hln : lineT u = match partsR form ws ⟨op, 0, 0, 0, 0⟩ [] with
                | some p => .inst p.1 p.2
                | none => .bad := by
              rw [HLT.out, ← ho, if_neg (by omega), hf0, HWS.out, wsR]
              have hre := HRE.out
              cases more with
              | true =>
                rw [if_neg (HNE.out rfl), hre, if_pos rfl]
                rfl
              | false =>
                rw [hre]
                rfl
            have hop0 : (op == 0) = false := by rw [beq_eq_false_iff_ne]; omega
            have HLN := Lib.hid hln
            have HF0 := Lib.hid hf0
            have HOB := Lib.hid (show -9223372036854775808 ≤ op ∧ op ≤ 9223372036854775807 by omega)
            clear ho hlo hhi hln hf0
            by_cases hwl : n = pb.size
            · subst hwl
              obtain ⟨it, hit⟩ : ∃ it, it = w5.heap.size := ⟨_, rfl⟩
              have HITZ := Lib.hid hit
              have HLT5 : Hid (bx < it ∧ 12 ≤ bx) := Lib.hid ⟨by rw [hit]; exact HBX5.out.lt, by rw [HBX.out]; exact HB.out.room⟩
              clear d0 d1 d2 d3 d4 f0 f1 f2 f3 f4
              have d0 := HBX5.out.cell (i := 0) rfl
              go_wp2_with fail
              rw [← hit]
              clear hit d0
              go_loopw [3, 4] (fun tv okv wr => ∃ (i : Nat) (ok : Bool) (x : Ins) (tgt : List UInt8), i ≤ pb.size ∧ tv = .string ⟨tgt.toArray⟩ ∧ okv = .bool ok ∧ Hid (RiAt w5 pb form ws ⟨op, 0, 0, 0, 0⟩ bx it i ok x tgt wr)) (fun _ _ wr => pb.size - wr.iterPos it)
              case atStart => exact ⟨0, true, ⟨op, 0, 0, 0, 0⟩, [], Nat.zero_le _, rfl, rfl, Lib.hid ⟨by rw [HITZ.out]; exact World.iter_heap _ _ _, HBX5.out.alloc _, by unfold Left; rw [if_pos rfl]; rfl, ⟨HOB.out, zero_64, zero_64, zero_64, zero_64⟩, (Mods.refl _ _).alloc _⟩⟩
              case round =>
                obtain ⟨i, ok, x, tgt, hi, rfl, rfl, HW⟩ := hrel
                by_cases hlt : i < pb.size
                · obtain ⟨c, hc, hci⟩ : ∃ c, form[i]? = some c ∧ pb[i]'hlt = c := by
                    have h1 : i < form.length := by rw [← HPB.out.2]; exact hlt
                    refine ⟨form[i], List.getElem?_eq_getElem h1, ?_⟩
                    have e := HPB.out.1
                    subst e
                    rfl
                  obtain ⟨w, hwi⟩ : ∃ w, ws[i]? = some w := ⟨_, List.getElem?_eq_getElem (by rw [← HN.out]; exact hlt)⟩
                  have hcm := parts_in op c (by rw [← HF0.out]; exact List.mem_of_getElem? hc)
                  have hsm : (pb[i]'hlt).toNat < 128 := by rw [hci]; rcases hcm with rfl | rfl | rfl | rfl | rfl | rfl <;> decide
                  have hnx0 : ∀ ty, (Instr.next (.pointer (some ⟨it, 0, none⟩)) true ty).run Tryz.prog wr = .ok (.tuple #[.bool true, .int .i64 i, .int .i32 (pb[i]'hlt).toNat]) (wr.iterAt it pb (i + 1)) := fun ty => Lib.run_next_ascii_at wr it pb i ty HW.out.at_ hlt hsm
                  obtain ⟨w7, hw7⟩ : ∃ w7, w7 = wr.iterAt it pb (i + 1) := ⟨_, rfl⟩
                  rw [← hw7, hci] at hnx0
                  have hlt3 := HLT5.out.1
                  have HBX7 : Hid (Blk w7 bx (instCells x.op x.rd x.ra x.rb x.n).toList 30) := Lib.hid (by rw [hw7]; exact iter_blk HW.out.blk (by omega) _ _)
                  have HIT : Hid (w7.heap[it]? = some (.stringIter pb (i + 1))) := Lib.hid (by rw [hw7]; exact Lib.iterAt_heap _ _ _ _ _ HW.out.at_)
                  have HM7 : Hid (Mods (fun k => k = bx) w5 w7) := Lib.hid (by rw [hw7]; exact iter_mods HW.out.mods (by rw [← HITZ.out]; exact Nat.le_refl _) _ _)
                  have HCW := Lib.hid (And.intro hc hwi)
                  have HLF := Lib.hid HW.out.left
                  have HXI := Lib.hid HW.out.i64
                  have HP := Lib.hid (iterPos_of HW.out.at_)
                  obtain ⟨g, hoa, hg, hcw⟩ := (HWD5.out.next HM7.out).at_ i w hwi
                  have HG := Lib.hid hg
                  have HSHO := Lib.hid ((HWD5.out.short w (List.mem_of_getElem? hwi)))
                  have HB7 := Lib.hid (HB.out.next (HMW5.out.trans' HM7.out (fun k hk hw => by have := HBX.out; omega)) far_none)
                  have HIN := Lib.hid (And.intro hlt hlt3)
                  subst hoa
                  unfold str at hcw
                  have hin : (i : Int) < pb.size := by omega
                  have hcw1 := hcw
                  clear hw7 HW hc hsm hci hi hlt3 hg hwi
                  rcases hcm with rfl | rfl | rfl | rfl | rfl | rfl
                  all_goals simp only [UInt8.reduceToNat] at hnx0
                  · as_aux_lemma =>
                      have hnx := hnx0
                      clear hnx0
                      go_wp2_with fail
                      refine (ref_reg w w7 HB7.out).mono ?_
                      rintro e w8 ⟨⟨v, b, rfl, hv0, hv⟩, hm8⟩
                      have HL := Lib.hid (HLF.out.next HCW.out.1 HCW.out.2 (reg_part hv fun n => ({ x with rd := n }, tgt)))
                      have HI := Lib.hid (show I64s { x with rd := v } from ⟨HXI.out.op, hv0, HXI.out.ra, HXI.out.rb, HXI.out.n⟩)
                      have HM8 := Lib.hid (HM7.out.trans' hm8 (fun k hk => hk.elim))
                      have HIT8 := Lib.hid (iter_mod hm8 HIT.out (fun f => f))
                      have HBX8 := Lib.hid (HBX7.out.mods hm8 (fun f => f))
                      clear hm8 hv hv0 hcw1 hnx
                      have q1 := HBX8.out.cell (i := 1) rfl
                      have f1 := HBX8.out.free 1
                      cases ok
                      all_goals
                        go_wp2_with fail
                        have hs := HBX8.out.set 1 (.int .i64 v)
                        have hi9 := (iter_set HIT8.out (a := ⟨bx, 1, none⟩) (by have := HIN.out.2; simp only; omega) (.int .i64 v))
                        exact ⟨⟨i + 1, _, { x with rd := v }, tgt, by have := HIN.out.1; omega, rfl, rfl, Lib.hid ⟨hi9, hs, HL.out, HI.out, HM8.out.setCell (fun _ => rfl) _⟩⟩, by have h9 := iterPos_of hi9; rw [HP.out, h9]; have := HIN.out.1; omega⟩
                  · as_aux_lemma =>
                      have hnx := hnx0
                      clear hnx0
                      go_wp2_with fail
                      refine (ref_reg w w7 HB7.out).mono ?_
                      rintro e w8 ⟨⟨v, b, rfl, hv0, hv⟩, hm8⟩
                      have HL := Lib.hid (HLF.out.next HCW.out.1 HCW.out.2 (reg_part hv fun n => ({ x with ra := n }, tgt)))
                      have HI := Lib.hid (show I64s { x with ra := v } from ⟨HXI.out.op, HXI.out.rd, hv0, HXI.out.rb, HXI.out.n⟩)
                      have HM8 := Lib.hid (HM7.out.trans' hm8 (fun k hk => hk.elim))
                      have HIT8 := Lib.hid (iter_mod hm8 HIT.out (fun f => f))
                      have HBX8 := Lib.hid (HBX7.out.mods hm8 (fun f => f))
                      clear hm8 hv hv0 hcw1 hnx
                      have q1 := HBX8.out.cell (i := 2) rfl
                      have f1 := HBX8.out.free 2
                      cases ok
                      all_goals
                        go_wp2_with fail
                        have hs := HBX8.out.set 2 (.int .i64 v)
                        have hi9 := (iter_set HIT8.out (a := ⟨bx, 2, none⟩) (by have := HIN.out.2; simp only; omega) (.int .i64 v))
                        exact ⟨⟨i + 1, _, { x with ra := v }, tgt, by have := HIN.out.1; omega, rfl, rfl, Lib.hid ⟨hi9, hs, HL.out, HI.out, HM8.out.setCell (fun _ => rfl) _⟩⟩, by have h9 := iterPos_of hi9; rw [HP.out, h9]; have := HIN.out.1; omega⟩
                  · as_aux_lemma =>
                      have hnx := hnx0
                      clear hnx0
                      go_wp2_with fail
                      refine (ref_reg w w7 HB7.out).mono ?_
                      rintro e w8 ⟨⟨v, b, rfl, hv0, hv⟩, hm8⟩
                      have HL := Lib.hid (HLF.out.next HCW.out.1 HCW.out.2 (reg_part hv fun n => ({ x with rb := n }, tgt)))
                      have HI := Lib.hid (show I64s { x with rb := v } from ⟨HXI.out.op, HXI.out.rd, HXI.out.ra, hv0, HXI.out.n⟩)
                      have HM8 := Lib.hid (HM7.out.trans' hm8 (fun k hk => hk.elim))
                      have HIT8 := Lib.hid (iter_mod hm8 HIT.out (fun f => f))
                      have HBX8 := Lib.hid (HBX7.out.mods hm8 (fun f => f))
                      clear hm8 hv hv0 hcw1 hnx
                      have q1 := HBX8.out.cell (i := 3) rfl
                      have f1 := HBX8.out.free 3
                      cases ok
                      all_goals
                        go_wp2_with fail
                        have hs := HBX8.out.set 3 (.int .i64 v)
                        have hi9 := (iter_set HIT8.out (a := ⟨bx, 3, none⟩) (by have := HIN.out.2; simp only; omega) (.int .i64 v))
                        exact ⟨⟨i + 1, _, { x with rb := v }, tgt, by have := HIN.out.1; omega, rfl, rfl, Lib.hid ⟨hi9, hs, HL.out, HI.out, HM8.out.setCell (fun _ => rfl) _⟩⟩, by have h9 := iterPos_of hi9; rw [HP.out, h9]; have := HIN.out.1; omega⟩
                  · as_aux_lemma =>
                      have hnx := hnx0
                      clear hnx0
                      have hIX := ref_index w 40 w7
                      unfold str at hIX
                      have HIX := Lib.hid hIX
                      obtain ⟨k, hk⟩ : ∃ k, k = Lib.indexByte w 40 := ⟨_, rfl⟩
                      rw [← hk] at HIX
                      have HK := Lib.hid hk
                      clear hIX hk
                      go_wp2_with fail
                      refine HIX.out.mono ?_
                      rintro e w' ⟨rfl, hw'⟩
                      rw [hw']
                      clear hw' HIX hnx
                      by_cases h40 : 40 ∈ w
                      · obtain ⟨p, r, hw, hnp⟩ := first_at w h40
                        have hkp : k = (p.length : Int) := by rw [HK.out, hw, indexB_app p r hnp]
                        subst hkp
                        have hwl : w.length = p.length + 1 + r.length := by rw [hw]; simp; omega
                        have hwl1 : 0 < w.length := by omega
                        have HWL := Lib.hid hwl
                        clear hwl
                        have HW40 := Lib.hid (And.intro hw hnp)
                        have hk0 : ¬ (p.length : Int) < 0 := by omega
                        have hwz : (⟨w.toArray⟩ : ByteArray).size = w.length := size_str w
                        have hwr : IntKind.i64.wrap ((w.length : Int) - 1) = ((w.length - 1 : Nat) : Int) := by
                          have := HSHO.out
                          rw [IntKind.wrap_i64]
                          omega
                        obtain ⟨c, hc⟩ : ∃ c, w[w.length - 1]? = some c := ⟨_, List.getElem?_eq_getElem (by omega)⟩
                        have hi1 := fun W => run_last hwl1 hc ((w.length : Int) - 1) rfl W
                        have hi2 := fun W => run_last hwl1 hc ((w.length - 1 : Nat) : Int) (by omega) W
                        have hi3 := fun W => run_last hwl1 hc (IntKind.i64.wrap ((w.length : Int) - 1)) (by rw [hwr]; omega) W
                        have hlast : w.getLast? = some c := by rw [List.getLast?_eq_getElem?]; exact hc
                        have HLA := Lib.hid hlast
                        clear h40 hw hnp hc hlast
                        by_cases hcq : c = 41
                        rotate_left
                        · as_aux_lemma =>
                            have hcc : ((c.toNat : Int) != 41) = true := by
                              rw [bne_iff_ne]
                              intro e
                              exact hcq (UInt8.toNat_inj.1 (by rw [show (41 : UInt8).toNat = 41 from rfl]; omega))
                            have HL := Lib.hid (HLF.out.next (b := false) (x' := x) (tgt' := tgt) HCW.out.1 HCW.out.2 (.inr ⟨rfl, mem_not (.inr (by rw [HLA.out]; intro e; exact hcq (Option.some.inj e)))⟩))
                            have d0 := HBX7.out.cell (i := 0) rfl
                            have d1 := HBX7.out.cell (i := 1) rfl
                            have d2 := HBX7.out.cell (i := 2) rfl
                            have d3 := HBX7.out.cell (i := 3) rfl
                            have d4 := HBX7.out.cell (i := 4) rfl
                            have f0 := HBX7.out.free 0
                            have f1 := HBX7.out.free 1
                            have f2 := HBX7.out.free 2
                            have f3 := HBX7.out.free 3
                            have f4 := HBX7.out.free 4
                            clear hcq
                            go_upto_region 36 with (fail)
                            go_quiet (fail)
                            all_goals
                              go_wp2_with fail
                              obtain ⟨wz, hwz, hz⟩ := set_fiveE (show Blk (w7.drewN nq) bx (instCells x.op x.rd x.ra x.rb x.n).toList 30 from HBX7.out) (.int .i64 x.op) (.int .i64 x.rd) (.int .i64 x.ra) (.int .i64 x.rb) (.int .i64 x.n)
                              rw [← hwz]
                              clear hwz
                              have e0 := hz.1.cell (i := 0) rfl
                              have e1 := hz.1.cell (i := 1) rfl
                              have e2 := hz.1.cell (i := 2) rfl
                              have e3 := hz.1.cell (i := 3) rfl
                              have e4 := hz.1.cell (i := 4) rfl
                              refine bodyPost_ret (v := .tuple #[.agg #[.int .i64 x.op, .int .i64 x.rd, .int .i64 x.ra, .int .i64 x.rb, .int .i64 x.n], .string ⟨#[]⟩, .bool false]) (by simp [results, Tryz.results33, go_sem, e0, e1, e2, e3, e4]) rfl ?_
                              exact ⟨⟨x, [], false, rfl, .inr ⟨rfl, by rw [HLN.out, HL.out.none]⟩⟩, ((HMW5.out.trans' HM7.out (fun k hk hw => by have := HBX.out; omega)).drewN nq).trans' hz.2 (fun k hk hw => by have := HBX.out; omega)⟩
                        · as_aux_lemma =>
                            subst hcq
                            have hcc : (((41 : UInt8).toNat : Int) != 41) = false := rfl
                            obtain ⟨r2, hr2⟩ : ∃ r2, r = r2 ++ [41] := by
                              have h := HLA.out
                              rw [HW40.out.1, last_app (by simp)] at h
                              cases r with
                              | nil => simp at h
                              | cons d r => exact List.getLast?_eq_some_iff.1 (by simpa using h)
                            subst hr2
                            have hm2 := mem_two HW40.out.2 HW40.out.1
                            have he1 : (⟨w.toArray⟩ : ByteArray).extract 0 p.length = ⟨p.toArray⟩ := by rw [extract_take, HW40.out.1, List.take_left' rfl]
                            have he2 : (⟨w.toArray⟩ : ByteArray).extract (p.length + 1) (w.length - 1) = ⟨r2.toArray⟩ := by
                              rw [extract_mid, HW40.out.1]
                              have e : p ++ 40 :: (r2 ++ [41]) = (p ++ 40 :: r2) ++ [41] := by simp
                              rw [e, List.take_left' (by simp), show p ++ 40 :: r2 = (p ++ [40]) ++ r2 by simp, List.drop_left' (by simp)]
                            have hwl2 : w.length - 1 = p.length + 1 + r2.length := by
                              rw [HWL.out]
                              simp
                            have HWL2 := Lib.hid hwl2
                            have HEX := Lib.hid (And.intro he1 he2)
                            have HM2 := Lib.hid hm2
                            have HPL : Hid (p.length ≤ 1000000 ∧ r2.length ≤ 1000000) := Lib.hid (by have := HSHO.out; omega)
                            clear he1 he2 hm2 hwl2
                            go_upto_region 36 with (fail)
                            go_quiet (fail)
                            all_goals
                              obtain ⟨wq, hwq⟩ : ∃ wq, wq = w7.drewN nq := ⟨_, rfl⟩
                              have HBXq : Hid (Blk wq bx (instCells x.op x.rd x.ra x.rb x.n).toList 30) := Lib.hid (by rw [hwq]; exact HBX7.out)
                              have HITq : Hid (wq.heap[it]? = some (.stringIter pb (i + 1))) := Lib.hid (by rw [hwq]; exact HIT.out)
                              have HMq : Hid (Mods (fun k => k = bx) w5 wq) := Lib.hid (by rw [hwq]; exact HM7.out.drewN nq)
                              have HBq := Lib.hid (HB.out.next (HMW5.out.trans' HMq.out (fun k hk hw => by have := HBX.out; omega)) far_none)
                              have hcwq : wq.cell? ⟨g, i, none⟩ = some (.string ⟨w.toArray⟩) := by rw [hwq]; exact hcw
                              rw [← hwq]
                              clear hwq hcw1 hcw hi1 hi2 hi3
                              have hpl := (by have := HWL.out; omega : p.length ≤ w.length)
                              have hwz : (⟨w.toArray⟩ : ByteArray).size = w.length := size_str w
                              go_wp2_with fail
                              rw [HEX.out.1]
                              refine (ref_whole p HPL.out.1 wq HBq.out).mono ?_
                              rintro e w8 ⟨⟨v, b, rfl, hv0, hv⟩, hm8⟩
                              have HV := Lib.hid (And.intro hv0 hv)
                              have HM8 := Lib.hid (HMq.out.trans' hm8 (fun k hk => hk.elim))
                              have HIT8 := Lib.hid (iter_mod hm8 HITq.out (fun f => f))
                              have HBX8 := Lib.hid (HBXq.out.mods hm8 (fun f => f))
                              clear hm8 hv0 hv hcwq HITq HBXq HMq HBq
                              have q4 := HBX8.out.cell (i := 4) rfl
                              have f4 := HBX8.out.free 4
                              obtain ⟨w9, hw9⟩ : ∃ q, q = w8.setCell ⟨bx, 4, none⟩ (.int .i64 v) := ⟨_, rfl⟩
                              have HBX9 : Hid (Blk w9 bx (instCells x.op x.rd x.ra x.rb v).toList 30) := Lib.hid (by rw [hw9]; exact HBX8.out.set 4 (.int .i64 v))
                              have HIT9 : Hid (w9.heap[it]? = some (.stringIter pb (i + 1))) := Lib.hid (by rw [hw9]; exact iter_set HIT8.out (a := ⟨bx, 4, none⟩) (by have := HIN.out.2; simp only; omega) (.int .i64 v))
                              have HM9 : Hid (Mods (fun k => k = bx) w5 w9) := Lib.hid (by rw [hw9]; exact HM8.out.setCell (fun _ => rfl) _)
                              have HB9 := Lib.hid (HB.out.next (HMW5.out.trans' HM9.out (fun k hk hw => by have := HBX.out; omega)) far_none)
                              have hcw9 : w9.cell? ⟨g, i, none⟩ = some (.string ⟨w.toArray⟩) := by
                                obtain ⟨g', e, -, h⟩ := (HWD5.out.next HM9.out).at_ i w HCW.out.2
                                cases e
                                exact h
                              go_upto_region 40 with (fail)
                              rw [← hw9]
                              clear hw9 HIT8 HBX8 HM8 q4 f4
                              have hwp : IntKind.i64.wrap ((p.length : Int) + 1) = ((p.length + 1 : Nat) : Int) := by
                                have := HPL.out.1
                                rw [IntKind.wrap_i64]
                                omega
                              have hb1 : p.length + 1 ≤ w.length - 1 := by have := HWL2.out; omega
                              have hb2 : w.length - 1 ≤ w.length := by omega
                              have hb3 : (0 : Int) ≤ (p.length : Int) + 1 := by omega
                              have hb4 : (p.length : Int) + 1 ≤ ((w.length - 1 : Nat) : Int) := by omega
                              have HBd := Lib.hid (HB9.out.next (Mods.refl None w9).drew far_none)
                              clear HB9
                              have hne9 : bx ≠ g := fun e => HG.out e.symm
                              have hcwd : w9.drew.cell? ⟨g, i, none⟩ = some (.string ⟨w.toArray⟩) := hcw9
                              go_region_held3 (fun w' => w'.cell? ⟨g, i, none⟩ = some (.string ⟨w.toArray⟩))
                                (first | exact hcwd | exact hcwa | exact (World.cell?_setCell_far _ _ _ _ hne9).trans hcwa)
                                ((first | (go_at_call 67; rw [HEX.out.2]; refine (ref_reg r2 w9.drew HBd.out).mono ?_; rintro e wa ⟨⟨v2, b2, rfl, hv20, hv2⟩, hma⟩; have HV2 := Lib.hid (And.intro hv20 hv2); have HMa := Lib.hid (HM9.out.drew.trans' hma (fun k hk => hk.elim)); have HITa := Lib.hid (iter_mod hma (show w9.drew.heap[it]? = _ from HIT9.out) (fun f => f)); have HBXa := Lib.hid (HBX9.out.drew.mods hma (fun f => f)); have hcwa := hma.cellOf hcwd (fun f => f); clear hma hv20 hv2; have q2 := HBXa.out.cell (i := 2) rfl; have f2 := HBXa.out.free 2)))
                              all_goals
                                have HL := Lib.hid (HLF.out.next HCW.out.1 HCW.out.2 (mem_part HM2.out.1 HM2.out.2 HV.out.2 HV2.out.2))
                                have HI := Lib.hid (show I64s { x with n := v, ra := v2 } from ⟨HXI.out.op, HXI.out.rd, HV2.out.1, HXI.out.rb, HV.out.1⟩)
                                have hs := HBXa.out.set 2 (.int .i64 v2)
                                have hi9 := (iter_set HITa.out (a := ⟨bx, 2, none⟩) (by have := HIN.out.2; simp only; omega) (.int .i64 v2))
                                have HS9 := Lib.hid (And.intro hs hi9)
                                clear hs hi9
                                cases b <;> cases b2 <;> cases ok
                                all_goals
                                  go_wp2_with fail
                                  exact ⟨⟨i + 1, _, { x with n := v, ra := v2 }, tgt, by have := HIN.out.1; omega, rfl, rfl, Lib.hid ⟨HS9.out.2, HS9.out.1, HL.out, HI.out, HMa.out.setCell (fun _ => rfl) _⟩⟩, by have h9 := iterPos_of HS9.out.2; rw [HP.out, h9]; have := HIN.out.1; omega⟩
                      · as_aux_lemma =>
                          have hk0 : k = -1 := by rw [HK.out, indexB_none w h40]
                          subst hk0
                          have HL := Lib.hid (HLF.out.next (b := false) (x' := x) (tgt' := tgt) HCW.out.1 HCW.out.2 (.inr ⟨rfl, mem_not (.inl h40)⟩))
                          have d0 := HBX7.out.cell (i := 0) rfl
                          have d1 := HBX7.out.cell (i := 1) rfl
                          have d2 := HBX7.out.cell (i := 2) rfl
                          have d3 := HBX7.out.cell (i := 3) rfl
                          have d4 := HBX7.out.cell (i := 4) rfl
                          have f0 := HBX7.out.free 0
                          have f1 := HBX7.out.free 1
                          have f2 := HBX7.out.free 2
                          have f3 := HBX7.out.free 3
                          have f4 := HBX7.out.free 4
                          clear h40
                          go_upto_region 36 with (fail)
                          go_region
                          all_goals
                            go_wp2_with fail
                            obtain ⟨wz, hwz, hz⟩ := set_fiveE HBX7.out (.int .i64 x.op) (.int .i64 x.rd) (.int .i64 x.ra) (.int .i64 x.rb) (.int .i64 x.n)
                            rw [← hwz]
                            clear hwz
                            have e0 := hz.1.drew.cell (i := 0) rfl
                            have e1 := hz.1.drew.cell (i := 1) rfl
                            have e2 := hz.1.drew.cell (i := 2) rfl
                            have e3 := hz.1.drew.cell (i := 3) rfl
                            have e4 := hz.1.drew.cell (i := 4) rfl
                            refine bodyPost_ret (v := .tuple #[.agg #[.int .i64 x.op, .int .i64 x.rd, .int .i64 x.ra, .int .i64 x.rb, .int .i64 x.n], .string ⟨#[]⟩, .bool false]) (by simp [results, Tryz.results33, go_sem, e0, e1, e2, e3, e4]) rfl ?_
                            exact ⟨⟨x, [], false, rfl, .inr ⟨rfl, by rw [HLN.out, HL.out.none]⟩⟩, (HMW5.out.trans' HM7.out (fun k hk hw => by have := HBX.out; omega)).trans' hz.2.drew (fun k hk hw => by have := HBX.out; omega)⟩
                  · as_aux_lemma =>
                      have hnx := hnx0
                      clear hnx0
                      go_wp2_with fail
                      refine (ref_whole w HSHO.out w7 HB7.out).mono ?_
                      rintro e w8 ⟨⟨v, b, rfl, hv0, hv⟩, hm8⟩
                      have HL := Lib.hid (HLF.out.next HCW.out.1 HCW.out.2 (num_part hv fun n => ({ x with n := n }, tgt)))
                      have HI := Lib.hid (show I64s { x with n := v } from ⟨HXI.out.op, HXI.out.rd, HXI.out.ra, HXI.out.rb, hv0⟩)
                      have HM8 := Lib.hid (HM7.out.trans' hm8 (fun k hk => hk.elim))
                      have HIT8 := Lib.hid (iter_mod hm8 HIT.out (fun f => f))
                      have HBX8 := Lib.hid (HBX7.out.mods hm8 (fun f => f))
                      clear hm8 hv hv0 hcw1 hnx
                      have q1 := HBX8.out.cell (i := 4) rfl
                      have f1 := HBX8.out.free 4
                      cases ok <;> cases b
                      all_goals
                        go_wp2_with fail
                        have hs := HBX8.out.set 4 (.int .i64 v)
                        have hi9 := (iter_set HIT8.out (a := ⟨bx, 4, none⟩) (by have := HIN.out.2; simp only; omega) (.int .i64 v))
                        exact ⟨⟨i + 1, _, { x with n := v }, tgt, by have := HIN.out.1; omega, rfl, rfl, Lib.hid ⟨hi9, hs, HL.out, HI.out, HM8.out.setCell (fun _ => rfl) _⟩⟩, by have h9 := iterPos_of hi9; rw [HP.out, h9]; have := HIN.out.1; omega⟩
                  · as_aux_lemma =>
                      have hnx := hnx0
                      clear hnx0
                      go_wp2_with fail
                      refine (ref_whole w HSHO.out w7 HB7.out).mono ?_
                      rintro e w8 ⟨⟨v, b, rfl, hv0, hv⟩, hm8⟩
                      have HV := Lib.hid (fun nb hn => to_part (x := x) (tgt := tgt) (nb := nb) hv hn)
                      have HI := Lib.hid (show I64s { x with n := v } from ⟨HXI.out.op, HXI.out.rd, HXI.out.ra, HXI.out.rb, hv0⟩)
                      have HM8 := Lib.hid (HM7.out.trans' hm8 (fun k hk => hk.elim))
                      have HIT8 := Lib.hid (iter_mod hm8 HIT.out (fun f => f))
                      have HBX8 := Lib.hid (HBX7.out.mods hm8 (fun f => f))
                      clear hm8 hv hv0 hcw1 hnx
                      have q1 := HBX8.out.cell (i := 4) rfl
                      have f1 := HBX8.out.free 4
                      have hcwS : (w8.setCell ⟨bx, 4, none⟩ (.int .i64 v)).cell? ⟨g, i, none⟩ = some (.string ⟨w.toArray⟩) := by
                        obtain ⟨g', e, -, h⟩ := (HWD5.out.next (HM8.out.setCell (p := ⟨bx, 4, none⟩) (fun _ => rfl) (.int .i64 v))).at_ i w HCW.out.2
                        cases e
                        exact h
                      cases b with
                      | true =>
                        rcases HV.out true (fun h => by cases h) with ⟨-, hp⟩ | ⟨h, -⟩ | ⟨h, -⟩
                        · have HL := Lib.hid (HLF.out.next (b := true) HCW.out.1 HCW.out.2 (.inl ⟨rfl, hp⟩))
                          clear hp HV
                          cases ok
                          all_goals
                            go_wp2_with fail
                            have hs := HBX8.out.set 4 (.int .i64 v)
                            have hi9 := (iter_set HIT8.out (a := ⟨bx, 4, none⟩) (by have := HIN.out.2; simp only; omega) (.int .i64 v))
                            exact ⟨⟨i + 1, _, { x with n := v }, tgt, by have := HIN.out.1; omega, rfl, rfl, Lib.hid ⟨hi9, hs, HL.out, HI.out, HM8.out.setCell (fun _ => rfl) _⟩⟩, by have h9 := iterPos_of hi9; rw [HP.out, h9]; have := HIN.out.1; omega⟩
                        · cases h
                        · cases h
                      | false =>
                        have HNM := Lib.hid (ref_name w HSHO.out)
                        obtain ⟨nb, hnb⟩ : ∃ nb, nb = nameB w := ⟨_, rfl⟩
                        rw [← hnb] at HNM
                        unfold str at HNM
                        have hs := HBX8.out.set 4 (.int .i64 v)
                        have hi9 := (iter_set HIT8.out (a := ⟨bx, 4, none⟩) (by have := HIN.out.2; simp only; omega) (.int .i64 v))
                        have HS9 := Lib.hid (And.intro hs hi9)
                        clear hs hi9
                        rcases HV.out nb (fun _ => hnb) with ⟨h, -⟩ | ⟨-, h, hp⟩ | ⟨-, h, hp⟩
                        · cases h
                        · subst h
                          have HL := Lib.hid (HLF.out.next (b := true) HCW.out.1 HCW.out.2 (.inl ⟨rfl, hp⟩))
                          clear hp HV hnb
                          cases ok
                          all_goals
                            go_wp2_with (go_at_call 17; refine (HNM.out _).mono ?_; rintro e w9 ⟨rfl, rfl⟩)
                            exact ⟨⟨i + 1, _, { x with n := v }, w, by have := HIN.out.1; omega, rfl, rfl, Lib.hid ⟨HS9.out.2, HS9.out.1, HL.out, HI.out, HM8.out.setCell (fun _ => rfl) _⟩⟩, by have h9 := iterPos_of HS9.out.2; rw [HP.out, h9]; have := HIN.out.1; omega⟩
                        · subst h
                          have HL := Lib.hid (HLF.out.next (b := false) (x' := { x with n := v }) (tgt' := tgt) HCW.out.1 HCW.out.2 (.inr ⟨rfl, hp⟩))
                          clear hp HV hnb
                          cases ok
                          all_goals
                            go_wp2_with (go_at_call 17; refine (HNM.out _).mono ?_; rintro e w9 ⟨rfl, rfl⟩)
                            exact ⟨⟨i + 1, _, { x with n := v }, tgt, by have := HIN.out.1; omega, rfl, rfl, Lib.hid ⟨HS9.out.2, HS9.out.1, HL.out, HI.out, HM8.out.setCell (fun _ => rfl) _⟩⟩, by have h9 := iterPos_of HS9.out.2; rw [HP.out, h9]; have := HIN.out.1; omega⟩
                · as_aux_lemma =>
                    obtain rfl : i = pb.size := by omega
                    have hnx : ∀ ty, (Instr.next (.pointer (some ⟨it, 0, none⟩)) true ty).run Tryz.prog wr = .ok (.tuple #[.bool false]) wr := fun ty => Lib.run_next_end_at wr it pb pb.size ty HW.out.at_ (by omega)
                    have d0 := HW.out.blk.cell (i := 0) rfl
                    have d1 := HW.out.blk.cell (i := 1) rfl
                    have d2 := HW.out.blk.cell (i := 2) rfl
                    have d3 := HW.out.blk.cell (i := 3) rfl
                    have d4 := HW.out.blk.cell (i := 4) rfl
                    have f0 := HW.out.blk.free 0
                    have f1 := HW.out.blk.free 1
                    have f2 := HW.out.blk.free 2
                    have f3 := HW.out.blk.free 3
                    have f4 := HW.out.blk.free 4
                    go_wp2_with fail
                    obtain ⟨wz, hwz, hz⟩ := set_fiveE HW.out.blk (.int .i64 x.op) (.int .i64 x.rd) (.int .i64 x.ra) (.int .i64 x.rb) (.int .i64 x.n)
                    rw [← hwz]
                    clear hwz
                    have e0 := hz.1.cell (i := 0) rfl
                    have e1 := hz.1.cell (i := 1) rfl
                    have e2 := hz.1.cell (i := 2) rfl
                    have e3 := hz.1.cell (i := 3) rfl
                    have e4 := hz.1.cell (i := 4) rfl
                    refine bodyPost_ret (v := .tuple #[.agg #[.int .i64 x.op, .int .i64 x.rd, .int .i64 x.ra, .int .i64 x.rb, .int .i64 x.n], .string ⟨tgt.toArray⟩, .bool ok]) (by simp [results, Tryz.results33, go_sem, e0, e1, e2, e3, e4]) rfl ?_
                    refine ⟨⟨x, tgt, ok, rfl, ?_⟩, (HMW5.out.trans' HW.out.mods (fun k hk hw => by have := HBX.out; omega)).trans' hz.2 (fun k hk hw => by have := HBX.out; omega)⟩
                    have hl := HW.out.left
                    rw [HPB.out.2] at hl
                    rcases hl.done (by rw [← HN.out, HPB.out.2]) with ⟨h1, h2⟩ | ⟨h1, h2⟩
                    · exact .inl ⟨h1, by rw [HLN.out, h2], HW.out.i64⟩
                    · exact .inr ⟨h1, by rw [HLN.out, h2]⟩
            · as_aux_lemma =>
                have hwn : ((n : Int) != pb.size) = true := by
                  rw [bne_iff_ne]
                  omega
                have HW := Lib.hid hwl
                clear hwl
                go_wp2_with fail
                obtain ⟨wz, hwz, hz⟩ := set_fiveE HBX5.out (.int .i64 op) (.int .i64 0) (.int .i64 0) (.int .i64 0) (.int .i64 0)
                rw [← hwz]
                clear hwz
                have e0 := hz.1.cell (i := 0) rfl
                have e1 := hz.1.cell (i := 1) rfl
                have e2 := hz.1.cell (i := 2) rfl
                have e3 := hz.1.cell (i := 3) rfl
                have e4 := hz.1.cell (i := 4) rfl
                refine bodyPost_ret (v := .tuple #[.agg #[.int .i64 op, .int .i64 0, .int .i64 0, .int .i64 0, .int .i64 0], .string ⟨#[]⟩, .bool false]) (by simp [results, Tryz.results33, go_sem, e0, e1, e2, e3, e4]) rfl ?_
                exact ⟨⟨⟨op, 0, 0, 0, 0⟩, [], false, rfl, .inr ⟨rfl, by rw [HLN.out, parts_odd _ _ _ _ (by rw [← HN.out, ← HPB.out.2]; exact HW.out)]⟩⟩, HMW5.out.trans' hz.2 (fun k hk hw => by have := HBX.out; omega)⟩
end Go.Proofs.YtodgkbcgdbhpeaaGreatDoor.AsmP

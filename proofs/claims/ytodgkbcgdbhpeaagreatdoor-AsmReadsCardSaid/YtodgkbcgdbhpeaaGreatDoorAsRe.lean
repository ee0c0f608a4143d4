/- The reference's reading of a text: Assemble, walked. Conditions: the tables lie; Fine lies. -/
import Derived.Test.YtodgkbcgdbhpeaaGreatDoorAsRc
import Derived.Test.YtodgkbcgdbhpeaaGreatDoorRefRight
namespace Go.Proofs.YtodgkbcgdbhpeaaGreatDoor.AsmP
open Go.RowKit Go.Shelf Go.Proofs.YtodgkbcgdbhpeaaGreatDoor.WordP Go.Proofs.YtodgkbcgdbhpeaaGreatDoor.Wo
set_option linter.unusedVariables false
set_option linter.unusedSimpArgs false
set_option maxRecDepth 100000 in
set_option maxHeartbeats 16000000 in
theorem ref_asm (HRI : ∀ (u : List UInt8), u.length ≤ 1000000 → u ≠ [] → Lib.hasSuffix u [58] = false → ∀ W : World, Base W → Calls Tryz.prog 33 #[str u] W (InstP u W)) (s : List UInt8) (hs : s.length ≤ 900000) (W : World) (hB : Base W) (hF : FineAt W) :
    Calls Tryz.prog 13 #[str s] W (AsmB s W) := by
  have HB := Lib.hid hB
  have HS := Lib.hid hs
  have HF := Lib.hid hF
  have HR := Lib.hid HRI
  clear hB hs hF HRI
  obtain ⟨h, hh⟩ : ∃ h, h = W.heap.size := ⟨_, rfl⟩
  obtain ⟨ls, hls⟩ : ∃ ls, ls = splitL 10 s := ⟨_, rfl⟩
  have HLS := Lib.hid hls
  have HST := Lib.hid (ln_start W h hh ls)
  have HH := Lib.hid hh
  have HSH : Hid (∀ w ∈ ls, w.length ≤ 1000000) := Lib.hid (by
    rw [hls]
    intro w hw
    have := (splitL_len 10 s).1 w hw
    have := HS.out
    omega)
  have HLL : Hid (ls.length ≤ 900001) := Lib.hid (by rw [hls]; have := (splitL_len 10 s).2; have := HS.out; omega)
  obtain ⟨W2, hW2⟩ : ∃ q, q = (W.alloc (.cells #[.int .i64 0, .int .i64 0] 40)).alloc (.map #[] 0) := ⟨_, rfl⟩
  have hS2 : W2.heap.size = h + 2 := by rw [hW2, hh]; simp
  have HSP := Lib.hid (split_any s 10 (by have := HS.out; omega) W2 (HB.out.next (by rw [hW2]; exact ((Mods.refl _ _).alloc _).alloc _) far_none))
  rw [hS2, ← hls] at HSP
  rw [← hW2] at HST
  obtain ⟨n, hn⟩ : ∃ n, n = ls.length := ⟨_, rfl⟩
  obtain ⟨i0, hi0, hz0, hz1, hz2⟩ := info_parts ins_info
  have HI0 := Lib.hid (⟨hi0, hz0, hz1, hz2⟩ : _ ∧ _ ∧ _ ∧ _)
  clear hi0 hz0 hz1 hz2
  obtain ⟨i1, hi0, hz0, hz1, hz2⟩ := info_parts string_info
  have HI1 := Lib.hid (⟨hi0, hz0, hz1, hz2⟩ : _ ∧ _ ∧ _ ∧ _)
  clear hi0 hz0 hz1 hz2
  obtain ⟨i2, hi0, hz0, hz1, hz2⟩ := info_parts int_info
  have HI2 := Lib.hid (⟨hi0, hz0, hz1, hz2⟩ : _ ∧ _ ∧ _ ∧ _)
  clear hi0 hz0 hz1 hz2
  have HN := Lib.hid hn
  rw [← hn] at HSP
  have HNN : Hid (n ≤ 900001) := Lib.hid (by rw [hn]; exact HLL.out)
  have hmk := mk_places
  clear hls hn hS2
  unfold str at HSP ⊢
  go_enter Tryz.func13, Tryz.ntmps13
  go_wp2_with fail
  clear hmk
  rw [← hh]
  try rw [show W.heap.size + 1 = h + 1 by rw [hh]]
  rw [← hW2]
  refine HSP.out.mono ?_
  rintro e w3 ⟨rfl, hw3⟩
  have HQ0 : Hid (LnAt W h ls ⟨[], []⟩ (.slice none 0 0) (.slice none 0 0) (.slice none 0 0) w3) := Lib.hid (by rw [hw3]; exact HST.out)
  clear hw3 HST HSP hW2 hh
  go_wp2_with fail
  go_loopw [5, 6, 7, 23] (fun lv tv nv iv wr => ∃ (i : Nat) (t : TxS), i ≤ n ∧ iv = .int .i64 i ∧ Hid (linesR (ls.take i) 0 ⟨[], []⟩ = .ok t ∧ LnAt W h ls t lv tv nv wr)) (fun _ _ _ iv _ => (n - intOf iv).toNat)
  case atStart => exact ⟨0, ⟨[], []⟩, Nat.zero_le _, rfl, Lib.hid ⟨rfl, HQ0.out⟩⟩
  case round =>
    obtain ⟨i, t, hi, rfl, HQ⟩ := hrel
    obtain ⟨la, lc, rfl⟩ := row_form HQ.out.2.rows.ins
    obtain ⟨ta, tc, rfl⟩ := row_form HQ.out.2.rows.tos
    obtain ⟨na, nc, rfl⟩ := row_form HQ.out.2.rows.ats
    have hnn := HNN.out
    by_cases hlt : i < n
    · obtain ⟨x, hx⟩ : ∃ x, ls[i]? = some x := ⟨_, List.getElem?_eq_getElem (by rw [← HN.out]; exact hlt)⟩
      have hlt2 : (i : Int) < n := by omega
      have c := HQ.out.2.lns.cell (i := i) (v := str x) (by rw [List.getElem?_map, hx]; rfl)
      have hx6 := HSH.out x (List.mem_of_getElem? hx)
      have HT := Lib.hid (trim1_any x hx6 wr)
      have HX := Lib.hid hx
      have HI := Lib.hid hlt
      have HROOM := Lib.hid (lines_room HQ.out.1)
      unfold str at c
      clear hx
      go_wp2_with fail
      refine HT.out.mono ?_
      rintro e w1 ⟨rfl, hm1⟩
      obtain ⟨u, hu⟩ : ∃ u, u = Lib.trimB x 32 := ⟨_, rfl⟩
      rw [← hu]
      have hul : u.length ≤ 1000000 := by rw [hu]; have := trimB_len x 32; omega
      have HU := Lib.hid hu
      have HUL := Lib.hid hul
      have HA := Lib.hid (HQ.out.2.next hm1 (fun k f => f.elim))
      have HL := Lib.hid HQ.out.1
      have HB1 := Lib.hid (HB.out.next HA.out.mods far_none)
      clear hu hul hm1 hx6 HT c HQ hlt2
      unfold str
      by_cases h0 : u = []
      · subst h0
        go_wp2_with fail
        go_roundw
        case rel => exact ⟨i + 1, t, by have := HI.out; omega, by go_num, Lib.hid ⟨lines_next HL.out HX.out (addR_blank HU.out lineT_blank), HA.out⟩⟩
        case measure => simp only [intOf]; have := HI.out; omega
      · have hu0 : (u == []) = false := by rw [beq_eq_false_iff_ne]; exact h0
        have hwz : (⟨u.toArray⟩ : ByteArray).size = u.length := size_str u
        have hul := HUL.out
        cases hc : Lib.hasSuffix u [58] with
        | true =>
          obtain ⟨l0, l1, l2⟩ := colon_cut hc
          have HLT := Lib.hid (lineT_colon hc rfl)
          obtain ⟨v, hv⟩ : ∃ v, v = u.take (u.length - 1) := ⟨_, rfl⟩
          rw [l2, ← hv] at HLT
          have he1 : (⟨u.toArray⟩ : ByteArray).extract 0 (u.length - 1) = ⟨v.toArray⟩ := by rw [extract_take, hv]
          have hvl : v.length ≤ 1000000 := by rw [hv, List.length_take]; omega
          have hwr : IntKind.i64.wrap ((u.length : Int) - 1) = ((u.length - 1 : Nat) : Int) := by
            rw [IntKind.wrap_i64]
            omega
          have hi1 := fun W => run_last l0 l1 ((u.length : Int) - 1) rfl W
          have hi2 := fun W => run_last l0 l1 ((u.length - 1 : Nat) : Int) (by omega) W
          have hi3 := fun W => run_last l0 l1 (IntKind.i64.wrap ((u.length : Int) - 1)) (by rw [hwr]; omega) W
          have HV := Lib.hid hvl
          clear hc l1 l2 hv hvl
          go_wp2_with fail
          refine (ref_name v HV.out _).mono ?_
          rintro e w' ⟨rfl, rfl⟩
          obtain ⟨nb, hnb⟩ : ∃ nb, nb = nameB v := ⟨_, rfl⟩
          rw [← hnb] at HLT ⊢
          clear hnb
          cases nb with
          | false =>
            have hz := set_res HA.out.res (.int .i64 3) (.int .i64 i)
            have c0 := HA.out.res.cell (i := 0) rfl
            have c1 := HA.out.res.cell (i := 1) rfl
            have z0 := HA.out.res.free 0
            have z1 := HA.out.res.free 1
            have e0 := hz.1.cell (i := 0) rfl
            have e1 := hz.1.cell (i := 1) rfl
            have l0 := HA.out.res.lt
            go_wp2_with fail
            refine bodyPost_ret (v := .tuple #[.slice none 0 0, .agg #[.int .i64 3, .int .i64 i]]) (by simp [results, Tryz.results13, go_sem, e0, e1]) rfl ?_
            exact asm_err (asmR_lines HLS.out (lines_stop HL.out HX.out (addR_bad HU.out (by rw [HLT.out]; rfl)))) (HA.out.mods.trans' hz.2 (fun k hk hw => by have : k = h := hk; have := HH.out; omega))
          | true =>
            obtain ⟨nm, hsm, hnm⟩ := HA.out.plc
            have hlk := hsm.look (a := v) (by have := HV.out; unfold maxLen; omega)
            have HSM := Lib.hid (And.intro hsm hnm)
            clear hsm hnm
            unfold placeF at hlk
            cases hf : findP t.places v with
            | some k =>
              try rw [hf] at hlk
              try simp only [Option.map_some, Option.getD_some, Option.isSome_some] at hlk
              have HFD := Lib.hid hf
              clear hf
              have hz := set_res HA.out.res (.int .i64 9) (.int .i64 i)
              have c0 := HA.out.res.cell (i := 0) rfl
              have c1 := HA.out.res.cell (i := 1) rfl
              have z0 := HA.out.res.free 0
              have z1 := HA.out.res.free 1
              have e0 := hz.1.cell (i := 0) rfl
              have e1 := hz.1.cell (i := 1) rfl
              have l0 := HA.out.res.lt
              go_wp2_with fail
              refine bodyPost_ret (v := .tuple #[.slice none 0 0, .agg #[.int .i64 9, .int .i64 i]]) (by simp [results, Tryz.results13, go_sem, e0, e1]) rfl ?_
              exact asm_err (asmR_lines HLS.out (lines_stop HL.out HX.out (addR_twice HU.out (by rw [HLT.out]; rfl) HFD.out))) (HA.out.mods.trans' hz.2 (fun k hk hw => by have : k = h := hk; have := HH.out; omega))
            | none =>
              try rw [hf] at hlk
              try simp only [Option.map_none, Option.getD_none, Option.isSome_none] at hlk
              obtain ⟨w3, hup, hs3, hm3⟩ := HSM.out.1.put (a := v) (x := (t.l.length : Int)) (by have := HV.out; unfold maxLen; omega) (by have := HROOM.out.1; have := HI.out; omega) (by have := HSM.out.2; have := HROOM.out.2.1; have := HI.out; unfold maxLen; omega)
              have HS3 := Lib.hid (And.intro hs3 hm3)
              have HFD := Lib.hid hf
              clear hf hs3 hm3
              go_wp2_with fail
              go_roundw
              case rel => exact ⟨i + 1, { t with places := (v, t.l.length) :: t.places }, by have := HI.out; omega, by go_num, Lib.hid ⟨lines_next HL.out HX.out (addR_place HU.out (by rw [HLT.out]; rfl) HFD.out), HA.out.put HH.out.symm HS3.out.2 HS3.out.1 (by have := HSM.out.2; omega)⟩⟩
              case measure => simp only [intOf]; have := HI.out; omega
        | false =>
          obtain ⟨l0, c, l1, hc58⟩ := colon_none h0 hc
          have hcc : ((c.toNat : Int) == 58) = false := by
            rw [beq_eq_false_iff_ne]
            intro e
            exact hc58 (UInt8.toNat_inj.1 (by rw [show (58 : UInt8).toNat = 58 from rfl]; omega))
          have hwr : IntKind.i64.wrap ((u.length : Int) - 1) = ((u.length - 1 : Nat) : Int) := by
            rw [IntKind.wrap_i64]
            omega
          have hi1 := fun W => run_last l0 l1 ((u.length : Int) - 1) rfl W
          have hi2 := fun W => run_last l0 l1 ((u.length - 1 : Nat) : Int) (by omega) W
          have hi3 := fun W => run_last l0 l1 (IntKind.i64.wrap ((u.length : Int) - 1)) (by rw [hwr]; omega) W
          have HRX := Lib.hid (HR.out u HUL.out h0 hc w1 HB1.out)
          clear hc l1 hc58 h0
          go_wp2_with fail
          refine HRX.out.mono ?_
          rintro e w2 ⟨⟨x1, tgt, b, rfl, hb⟩, hm2⟩
          have HA2 := Lib.hid (HA.out.next hm2 (fun k f => f.elim))
          have HBD := Lib.hid hb
          obtain ⟨xo, xd, xa, xb, xn⟩ := x1
          clear hb hm2 HRX hi1 hi2 hi3 hcc hwr HA HB1 hu0 hwz
          simp only [Ins.val]
          unfold str
          obtain ⟨bl, hbl⟩ : ∃ bl, bl = w2.heap.size := ⟨_, rfl⟩
          obtain ⟨w3, hw3⟩ : ∃ w3, w3 = w2.alloc (.cells #[.int .i64 xo, .int .i64 xd, .int .i64 xa, .int .i64 xb, .int .i64 xn] 30) := ⟨_, rfl⟩
          have HA3 := Lib.hid (HA2.out.next (S := None) (W' := w3) (by rw [hw3]; exact (Mods.refl _ _).alloc _) (fun k f => f.elim))
          have HBK : Hid (Blk w3 bl [.int .i64 xo, .int .i64 xd, .int .i64 xa, .int .i64 xb, .int .i64 xn] 30) := Lib.hid (by rw [hw3, hbl]; exact Blk.new w2 _ _)
          cases b with
          | false =>
            go_upto_region 20 with (fail)
            rw [← hw3, ← hbl]
            clear hw3 hbl HA2
            have hbad : lineT u = .bad := by
              rcases HBD.out with ⟨f, -⟩ | ⟨-, f⟩
              · cases f
              · exact f
            have HBA := Lib.hid hbad
            clear hbad
            have hz := set_res HA3.out.res (.int .i64 3) (.int .i64 i)
            have c0 := HA3.out.res.cell (i := 0) rfl
            have c1 := HA3.out.res.cell (i := 1) rfl
            have z0 := HA3.out.res.free 0
            have z1 := HA3.out.res.free 1
            have e0 := hz.1.cell (i := 0) rfl
            have e1 := hz.1.cell (i := 1) rfl
            have l0 := HA3.out.res.lt
            go_wp2_with fail
            refine bodyPost_ret (v := .tuple #[.slice none 0 0, .agg #[.int .i64 3, .int .i64 i]]) (by simp [results, Tryz.results13, go_sem, e0, e1]) rfl ?_
            exact asm_err (asmR_lines HLS.out (lines_stop HL.out HX.out (addR_bad HU.out HBA.out))) (HA3.out.mods.trans' hz.2 (fun k hk hw => by have : k = h := hk; have := HH.out; omega))
          | true =>
            go_upto_region 21 with (fail)
            rw [← hw3, ← hbl]
            have hins : lineT u = .inst ⟨xo, xd, xa, xb, xn⟩ tgt := by
              rcases HBD.out with ⟨-, f, -⟩ | ⟨f, -⟩
              · exact f
              · cases f
            have HBA := Lib.hid hins
            have d0 := HBK.out.cell (i := 0) rfl
            have d1 := HBK.out.cell (i := 1) rfl
            have d2 := HBK.out.cell (i := 2) rfl
            have d3 := HBK.out.cell (i := 3) rfl
            have d4 := HBK.out.cell (i := 4) rfl
            clear hw3 hbl hins HA2
            obtain ⟨m, hm⟩ : ∃ m, m = t.l.length := ⟨_, rfl⟩
            have HM := Lib.hid hm
            have HR4 := Lib.hid (HA3.out.rows.next (S := None) ((Mods.refl _ _).alloc (.cells #[.int .i64 xo, .int .i64 xd, .int .i64 xa, .int .i64 xb, .int .i64 xn] 30)) (fun k f => f.elim))
            have hnew := Lib.hid (inst_new w3 ⟨xo, xd, xa, xb, xn⟩)
            have hone := Lib.hid (inst_one ⟨xo, xd, xa, xb, xn⟩)
            unfold instCells at hnew hone
            have hmb : m ≤ 900001 := by have := HROOM.out.1; have := HI.out; omega
            have hbz : h + 3 ≤ w3.heap.size := HA3.out.lns.lt
            rw [← hm] at HR4 ⊢
            clear hm
            go_wp2_with (at_builtin; refine wpList_append_own_at _ rfl _ _ 22 rfl (h + 3) 30 i0 _ 5 40 Tryz.underlying22 HI0.out.1 HI0.out.2.1 HI0.out.2.2.1 HI0.out.2.2.2 rfl (by decide) (.slice la m lc) m (insR t.l) rfl HR4.out.ins ⟨w3.heap.size, 0, none⟩ 1 1 [.int .i64 xo, .int .i64 xd, .int .i64 xa, .int .i64 xb, .int .i64 xn] rfl rfl hnew.out hone.out (by unfold maxLen; omega) (by omega) (by simp; omega) ?_; intro v' w8 hown hgrow hnil hloc; have HOW := Lib.hid hown; have HGR := Lib.hid (And.intro hgrow hloc); clear hown hgrow hnil hloc; refine Hid.out ?_)
            refine Lib.hid ?_
            obtain ⟨qa, qc, rfl⟩ := row_form HOW.out
            have HR8 := Lib.hid (HR4.out.app1 HOW.out HGR.out.1 HGR.out.2)
            have HR9 := Lib.hid (HR8.out.1.next (S := None) ((Mods.refl _ _).alloc (.cells #[.string ⟨tgt.toArray⟩] 9)) (fun k f => f.elim))
            have hbz8 : h + 3 ≤ w8.heap.size := Nat.le_trans hbz (Nat.le_trans ((Mods.refl None w3).alloc _).size HR8.out.2.size)
            clear HOW HGR d0 d1 d2 d3 d4
            go_wp2_with (at_builtin; refine wpList_append_own_at _ rfl _ _ 59 rfl (h + 3) 9 i1 _ 1 16 Tryz.underlying59 HI1.out.1 HI1.out.2.1 HI1.out.2.2.1 HI1.out.2.2.2 rfl (by decide) (.slice ta m tc) m (tosR t.l) rfl HR9.out.tos ⟨w8.heap.size, 0, none⟩ 1 1 [.string ⟨tgt.toArray⟩] rfl rfl (cell_one_new _ _ _) (str_one _) (by unfold maxLen; omega) (by omega) (by simp; omega) ?_; intro v' w9 hown hgrow hnil hloc; have HOW := Lib.hid hown; have HGR := Lib.hid (And.intro hgrow hloc); clear hown hgrow hnil hloc; refine Hid.out ?_)
            refine Lib.hid ?_
            obtain ⟨ra, rc, rfl⟩ := row_form HOW.out
            have HR10 := Lib.hid (HR9.out.app2 HOW.out HGR.out.1 HGR.out.2)
            have HR11 := Lib.hid (HR10.out.1.next (S := None) ((Mods.refl _ _).alloc (.cells #[.int .i64 (i : Int)] 3)) (fun k f => f.elim))
            have hbz9 : h + 3 ≤ w9.heap.size := Nat.le_trans hbz8 (Nat.le_trans ((Mods.refl None w8).alloc _).size HR10.out.2.size)
            clear HOW HGR
            go_wp2_with (at_builtin; refine wpList_append_own_at _ rfl _ _ 77 rfl (h + 3) 3 i2 _ 1 8 Tryz.underlying77 HI2.out.1 HI2.out.2.1 HI2.out.2.2.1 HI2.out.2.2.2 rfl (by decide) (.slice na m nc) m (atsR t.l) rfl HR11.out.ats ⟨w9.heap.size, 0, none⟩ 1 1 [.int .i64 (i : Int)] rfl rfl (cell_one_new _ _ _) (num_one _) (by unfold maxLen; omega) (by omega) (by simp; omega) ?_; intro v' w10 hown hgrow hnil hloc; have HOW := Lib.hid hown; have HGR := Lib.hid (And.intro hgrow hloc); clear hown hgrow hnil hloc; refine Hid.out ?_)
            refine Lib.hid ?_
            obtain ⟨pa, pc, rfl⟩ := row_form HOW.out
            have HR12 := Lib.hid (HR11.out.app3 HOW.out HGR.out.1 HGR.out.2)
            clear HOW HGR
            go_wp2_with fail
            go_roundw
            case rel =>
              refine ⟨i + 1, { t with l := t.l ++ [(⟨xo, xd, xa, xb, xn⟩, tgt, i)] }, by have := HI.out; omega, by go_num, Lib.hid ⟨lines_next HL.out HX.out (addR_inst HU.out HBA.out), ?_⟩⟩
              have hal : ∀ (w : World) (o : Obj), Mods (fun k => h + 3 ≤ k) w (w.alloc o) := fun w o => ((Mods.refl None w).alloc o).mono (fun k _ f => f.elim)
              refine HA3.out.rest HH.out.symm (((((hal w3 _).trans HR8.out.2).trans (hal w8 _)).trans HR10.out.2 |>.trans (hal w9 _)).trans HR12.out.2) rfl ?_
              have hr := HR12.out.1
              rw [← str] at hr
              simp only [List.length_append, List.length_singleton]
              rw [insR_add, tosR_add, atsR_add, ← HM.out]
              exact hr
            case measure => simp only [intOf]; have := HI.out; omega
    · obtain rfl : i = n := by omega
      have hpi : ¬ (i : Int) < (i : Int) := by omega
      have HL : Hid (linesR ls 0 ⟨[], []⟩ = .ok t) := Lib.hid (by
        have := HQ.out.1
        rw [List.take_of_length_le (by rw [← HN.out]; exact Nat.le_refl _)] at this
        exact this)
      have HROOM := Lib.hid (lines_room HQ.out.1)
      obtain ⟨m, hm⟩ : ∃ m, m = t.l.length := ⟨_, rfl⟩
      have HM := Lib.hid hm
      have HO0 := Lib.hid HQ.out.2.second
      have hmm : m ≤ 900001 := by have := HROOM.out.1; omega
      rw [← hm] at HO0 ⊢
      clear hm HQ
      go_wp2_with fail
      clear hpi
      go_loopw [88] (fun iv w' => ∃ (j : Nat) (acc : List Ins), j ≤ m ∧ iv = .int .i64 j ∧ Hid (OtAt W h t j acc (.slice la m lc) (.slice ta m tc) (.slice na m nc) w')) (fun iv _ => (m - intOf iv).toNat)
      case atStart => exact ⟨0, [], Nat.zero_le _, rfl, HO0⟩
      case round =>
        obtain ⟨w5, rfl⟩ : ∃ q : World, q = wr := ⟨_, rfl⟩
        obtain ⟨j, acc, hj, rfl, HO⟩ := hrel
        by_cases hlt2 : j < m
        · obtain ⟨y, hy⟩ : ∃ y, t.l[j]? = some y := ⟨_, List.getElem?_eq_getElem (by rw [← HM.out]; exact hlt2)⟩
          obtain ⟨x, tgt, an⟩ := y
          have HY := Lib.hid hy
          have htg : tgt.length ≤ 24 := HROOM.out.2.2.2 _ (List.mem_of_getElem? hy)
          have HTG := Lib.hid htg
          have hR := HO.out.opened hy
          rw [← HM.out] at hR
          obtain ⟨gi, rfl, hgb, hgl, hgc, hgf⟩ := row_cell hR.ins (by omega)
          obtain ⟨gt, rfl, -, -, htc, -⟩ := row_cell hR.tos (by omega)
          obtain ⟨gn, rfl, -, -, hnc, -⟩ := row_cell hR.ats (by omega)
          have hal := HO.out.len
          have hd : ∀ k, k < 5 → w5.cell? ⟨gi, j * 5 + k, none⟩ = (instCells x.op x.rd x.ra x.rb x.n).toList[k]? := fun k hk => by
            rw [hgc _ (by omega), ← hal]
            exact insRow_get _ x hk acc
          have d0 : w5.cell? ⟨gi, j * 5, none⟩ = some (.int .i64 x.op) := hd 0 (by omega)
          have d1 : w5.cell? ⟨gi, j * 5 + 1, none⟩ = some (.int .i64 x.rd) := hd 1 (by omega)
          have d2 : w5.cell? ⟨gi, j * 5 + 2, none⟩ = some (.int .i64 x.ra) := hd 2 (by omega)
          have d3 : w5.cell? ⟨gi, j * 5 + 3, none⟩ = some (.int .i64 x.rb) := hd 3 (by omega)
          have d4 : w5.cell? ⟨gi, j * 5 + 4, none⟩ = some (.int .i64 x.n) := hd 4 (by omega)
          have f4 : w5.frozen? ⟨gi, j * 5 + 4, none⟩ = false := hgf _
          have e5 : w5.cell? ⟨gt, j, none⟩ = some (.string ⟨tgt.toArray⟩) := by
            rw [htc _ (by omega)]
            unfold tosR
            rw [List.getElem?_map, hy]
            rfl
          have e6 : w5.cell? ⟨gn, j, none⟩ = some (.int .i64 (an : Int)) := by
            rw [hnc _ (by omega)]
            unfold atsR
            rw [List.getElem?_map, hy]
            rfl
          have HR := Lib.hid hR
          have hin : (j : Int) < m := by omega
          have HJ := Lib.hid hlt2
          have HAL := Lib.hid hal
          have HGI := Lib.hid (And.intro hgb hgl)
          clear hR hgc htc hnc hd hy htg hal hgf hgb
          by_cases htn : tgt = []
          · subst htn
            go_upto_region 31 with (fail)
            obtain ⟨tgt, htt⟩ : ∃ tgt : List UInt8, tgt = [] := ⟨_, rfl⟩
            obtain ⟨x1, hx1⟩ : ∃ x1, x1 = x := ⟨_, rfl⟩
            obtain ⟨w6, hw6⟩ : ∃ w6, w6 = w5 := ⟨_, rfl⟩
            have HAI : Hid (aimed t.places (x, tgt, an) j = if x1.right = true then .ok x1 else .error (2, an)) := Lib.hid (by rw [hx1, htt]; rfl)
            have HM6 : Hid (Mods (fun k => h + 3 ≤ k) w5 w6) := Lib.hid (by rw [hw6]; exact Mods.refl _ _)
            have HR6 := HR
            simp only at HR6
            rw [← hx1, ← hw6] at HR6
            rw [← htt] at HY
            rw [← hw6]
            clear htt hx1 hw6
            clear d0 d1 d2 d3 d4 f4 e5
            have hd : ∀ k, k < 5 → w6.cell? ⟨gi, j * 5 + k, none⟩ = (instCells x1.op x1.rd x1.ra x1.rb x1.n).toList[k]? := fun k hk => by
              rw [HR6.out.ins.cellAt _ (by have := HJ.out; omega), ← HAL.out]
              exact insRow_get _ x1 hk acc
            have d0 : w6.cell? ⟨gi, j * 5, none⟩ = some (.int .i64 x1.op) := hd 0 (by omega)
            have d1 : w6.cell? ⟨gi, j * 5 + 1, none⟩ = some (.int .i64 x1.rd) := hd 1 (by omega)
            have d2 : w6.cell? ⟨gi, j * 5 + 2, none⟩ = some (.int .i64 x1.ra) := hd 2 (by omega)
            have d3 : w6.cell? ⟨gi, j * 5 + 3, none⟩ = some (.int .i64 x1.rb) := hd 3 (by omega)
            have d4 : w6.cell? ⟨gi, j * 5 + 4, none⟩ = some (.int .i64 x1.n) := hd 4 (by omega)
            clear hd
            have HRT := Lib.hid (RefP.right_ref x1 w6)
            simp only [Ins.val] at HRT
            go_wp2_with fail
            refine HRT.out.mono ?_
            rintro e w7 ⟨rfl, hm7⟩
            have HM7 := Lib.hid hm7
            clear hm7 HRT d0 d1 d2 d3 d4
            obtain ⟨rt, hrt⟩ : ∃ rt, rt = x1.right := ⟨_, rfl⟩
            rw [← hrt] at HAI ⊢
            clear hrt
            cases rt with
            | false =>
              have HAIM : Hid (aimed t.places (x, tgt, an) j = .error (2, an)) := Lib.hid (by rw [HAI.out]; rfl)
              have HRS := Lib.hid ((HO.out.res.mods HM6.out (show ¬ (h + 3 ≤ h) by omega)).mods HM7.out (fun f => f))
              have hnc := HR6.out.ats.cellAt j (by have := HJ.out; omega)
              have e6 : w7.cell? ⟨gn, j, none⟩ = some (.int .i64 (an : Int)) := by
                rw [(HR6.out.next HM7.out (fun k f => f.elim)).ats.cellAt j (by have := HJ.out; omega)]
                unfold atsR
                rw [List.getElem?_map, HY.out]
                rfl
              have HMM := Lib.hid ((HO.out.mods.trans' HM6.out (fun k hk hw => by have : h + 3 ≤ k := hk; have := HH.out; omega)).trans HM7.out)
              have c0 := HRS.out.cell (i := 0) rfl
              have c1 := HRS.out.cell (i := 1) rfl
              have z0 := HRS.out.free 0
              have z1 := HRS.out.free 1
              have l0 := HRS.out.lt
              clear hnc
              go_upto_region 32 with (fail)
              go_region
              all_goals
                go_wp2_with fail
                have hz := set_res (HRS.out).drew (.int .i64 2) (.int .i64 (an : Int))
                have e0 := hz.1.cell (i := 0) rfl
                have e1 := hz.1.cell (i := 1) rfl
                have hz2 := set_res (HRS.out) (.int .i64 2) (.int .i64 (an : Int))
                have e02 := hz2.1.cell (i := 0) rfl
                have e12 := hz2.1.cell (i := 1) rfl
                refine bodyPost_ret (v := .tuple #[.slice none 0 0, .agg #[.int .i64 2, .int .i64 (an : Int)]]) (by simp [results, Tryz.results13, go_sem, e0, e1, e02, e12]) rfl ?_
                first
                  | exact asm_err ((asmR_out HLS.out HL.out).trans (HO.out.stop HY.out HAIM.out)) ((HMM.out).drew.trans' hz.2 (fun k hk hw => by have : k = h := hk; have := HH.out; omega))
                  | exact asm_err ((asmR_out HLS.out HL.out).trans (HO.out.stop HY.out HAIM.out)) (((HMM.out).trans' hz2.2 (fun k hk hw => by have : k = h := hk; have := HH.out; omega)).drew)
            | true =>
              have HAIM : Hid (aimed t.places (x, tgt, an) j = .ok x1) := Lib.hid (by rw [HAI.out]; rfl)
              go_wp2_with fail
              go_roundw
              case rel =>
                refine ⟨j + 1, acc ++ [x1], by have := HJ.out; omega, by go_num, Lib.hid (HO.out.step HH.out.symm (HM6.out.trans (HM7.out.mono (fun k _ f => f.elim))) HY.out HAIM.out ?_)⟩
                rw [← HM.out]
                exact HR6.out.next HM7.out (fun k f => f.elim)
              case measure => simp only [intOf]; have := HJ.out; omega
          · have htb : (tgt == []) = false := by rw [beq_eq_false_iff_ne]; exact htn
            have htc : (tgt != []) = true := by simpa using htn
            obtain ⟨nm, hsm⟩ := HO.out.plc
            have hlk := hsm.look (a := tgt) (by have := HTG.out; unfold maxLen; omega)
            clear hsm
            unfold placeF at hlk
            cases hf : findP t.places tgt with
            | none =>
              try rw [hf] at hlk
              try simp only [Option.map_none, Option.getD_none, Option.isSome_none] at hlk
              have HAIM : Hid (aimed t.places (x, tgt, an) j = .error (7, an)) := Lib.hid (by unfold aimed; rw [if_pos htn]; simp only; rw [hf])
              clear hf
              have c0 := HO.out.res.cell (i := 0) rfl
              have c1 := HO.out.res.cell (i := 1) rfl
              have z0 := HO.out.res.free 0
              have z1 := HO.out.res.free 1
              have l0 := HO.out.res.lt
              go_upto_region 29 with (fail)
              go_region
              all_goals
                go_wp2_with fail
                have hz := set_res (HO.out.res).drew (.int .i64 7) (.int .i64 (an : Int))
                have e0 := hz.1.cell (i := 0) rfl
                have e1 := hz.1.cell (i := 1) rfl
                have hz2 := set_res (HO.out.res) (.int .i64 7) (.int .i64 (an : Int))
                have e02 := hz2.1.cell (i := 0) rfl
                have e12 := hz2.1.cell (i := 1) rfl
                refine bodyPost_ret (v := .tuple #[.slice none 0 0, .agg #[.int .i64 7, .int .i64 (an : Int)]]) (by simp [results, Tryz.results13, go_sem, e0, e1, e02, e12]) rfl ?_
                first
                  | exact asm_err ((asmR_out HLS.out HL.out).trans (HO.out.stop HY.out HAIM.out)) ((HO.out.mods).drew.trans' hz.2 (fun k hk hw => by have : k = h := hk; have := HH.out; omega))
                  | exact asm_err ((asmR_out HLS.out HL.out).trans (HO.out.stop HY.out HAIM.out)) (((HO.out.mods).trans' hz2.2 (fun k hk hw => by have : k = h := hk; have := HH.out; omega)).drew)
            | some k =>
              try rw [hf] at hlk
              try simp only [Option.map_some, Option.getD_some, Option.isSome_some] at hlk
              have hkn : k ≤ m := by have := findP_le HROOM.out.2.2 hf; have := HM.out; omega
              obtain ⟨x1, hx1⟩ : ∃ x1, x1 = ({ x with n := ((k : Int) - j) * 4 } : Ins) := ⟨_, rfl⟩
              have HAI : Hid (aimed t.places (x, tgt, an) j = if x1.right = true then .ok x1 else .error (2, an)) := Lib.hid (by rw [hx1]; unfold aimed; rw [if_pos htn]; simp only; rw [hf])
              have hgl := HGI.out.2
              clear hf
              go_upto_region 31 with (fail)
              obtain ⟨w6, hw6⟩ : ∃ w6, w6 = w5.setCell ⟨gi, j * 5 + 4, none⟩ (.int .i64 (4 * (k : Int) - 4 * (j : Int))) := ⟨_, rfl⟩
              have HP6 := Lib.hid (HR.out.app1 (HR.out.ins.stored (j * 5 + 4) (.int .i64 (4 * (k : Int) - 4 * (j : Int)))).1 (HR.out.ins.stored (j * 5 + 4) (.int .i64 (4 * (k : Int) - 4 * (j : Int)))).2 (.inl rfl))
              rw [← hw6] at HP6 ⊢
              have HM6 := Lib.hid HP6.out.2
              have hr6 := HP6.out.1
              rw [← HAL.out, insRow_set, HAL.out, show 4 * (k : Int) - 4 * (j : Int) = ((k : Int) - j) * 4 by omega, ← hx1] at hr6
              have HR6 := Lib.hid hr6
              clear hw6 hx1 hr6 HP6 hlk htb htc
              clear d0 d1 d2 d3 d4 f4 e5
              have hd : ∀ k, k < 5 → w6.cell? ⟨gi, j * 5 + k, none⟩ = (instCells x1.op x1.rd x1.ra x1.rb x1.n).toList[k]? := fun k hk => by
                rw [HR6.out.ins.cellAt _ (by have := HJ.out; omega), ← HAL.out]
                exact insRow_get _ x1 hk acc
              have d0 : w6.cell? ⟨gi, j * 5, none⟩ = some (.int .i64 x1.op) := hd 0 (by omega)
              have d1 : w6.cell? ⟨gi, j * 5 + 1, none⟩ = some (.int .i64 x1.rd) := hd 1 (by omega)
              have d2 : w6.cell? ⟨gi, j * 5 + 2, none⟩ = some (.int .i64 x1.ra) := hd 2 (by omega)
              have d3 : w6.cell? ⟨gi, j * 5 + 3, none⟩ = some (.int .i64 x1.rb) := hd 3 (by omega)
              have d4 : w6.cell? ⟨gi, j * 5 + 4, none⟩ = some (.int .i64 x1.n) := hd 4 (by omega)
              clear hd
              have HRT := Lib.hid (RefP.right_ref x1 w6)
              simp only [Ins.val] at HRT
              go_wp2_with fail
              refine HRT.out.mono ?_
              rintro e w7 ⟨rfl, hm7⟩
              have HM7 := Lib.hid hm7
              clear hm7 HRT d0 d1 d2 d3 d4
              obtain ⟨rt, hrt⟩ : ∃ rt, rt = x1.right := ⟨_, rfl⟩
              rw [← hrt] at HAI ⊢
              clear hrt
              cases rt with
              | false =>
                have HAIM : Hid (aimed t.places (x, tgt, an) j = .error (2, an)) := Lib.hid (by rw [HAI.out]; rfl)
                have HRS := Lib.hid ((HO.out.res.mods HM6.out (show ¬ (h + 3 ≤ h) by omega)).mods HM7.out (fun f => f))
                have hnc := HR6.out.ats.cellAt j (by have := HJ.out; omega)
                have e6 : w7.cell? ⟨gn, j, none⟩ = some (.int .i64 (an : Int)) := by
                  rw [(HR6.out.next HM7.out (fun k f => f.elim)).ats.cellAt j (by have := HJ.out; omega)]
                  unfold atsR
                  rw [List.getElem?_map, HY.out]
                  rfl
                have HMM := Lib.hid ((HO.out.mods.trans' HM6.out (fun k hk hw => by have : h + 3 ≤ k := hk; have := HH.out; omega)).trans HM7.out)
                have c0 := HRS.out.cell (i := 0) rfl
                have c1 := HRS.out.cell (i := 1) rfl
                have z0 := HRS.out.free 0
                have z1 := HRS.out.free 1
                have l0 := HRS.out.lt
                clear hnc
                go_upto_region 32 with (fail)
                go_region
                all_goals
                  go_wp2_with fail
                  have hz := set_res (HRS.out).drew (.int .i64 2) (.int .i64 (an : Int))
                  have e0 := hz.1.cell (i := 0) rfl
                  have e1 := hz.1.cell (i := 1) rfl
                  have hz2 := set_res (HRS.out) (.int .i64 2) (.int .i64 (an : Int))
                  have e02 := hz2.1.cell (i := 0) rfl
                  have e12 := hz2.1.cell (i := 1) rfl
                  refine bodyPost_ret (v := .tuple #[.slice none 0 0, .agg #[.int .i64 2, .int .i64 (an : Int)]]) (by simp [results, Tryz.results13, go_sem, e0, e1, e02, e12]) rfl ?_
                  first
                    | exact asm_err ((asmR_out HLS.out HL.out).trans (HO.out.stop HY.out HAIM.out)) ((HMM.out).drew.trans' hz.2 (fun k hk hw => by have : k = h := hk; have := HH.out; omega))
                    | exact asm_err ((asmR_out HLS.out HL.out).trans (HO.out.stop HY.out HAIM.out)) (((HMM.out).trans' hz2.2 (fun k hk hw => by have : k = h := hk; have := HH.out; omega)).drew)
              | true =>
                have HAIM : Hid (aimed t.places (x, tgt, an) j = .ok x1) := Lib.hid (by rw [HAI.out]; rfl)
                go_wp2_with fail
                go_roundw
                case rel =>
                  refine ⟨j + 1, acc ++ [x1], by have := HJ.out; omega, by go_num, Lib.hid (HO.out.step HH.out.symm (HM6.out.trans (HM7.out.mono (fun k _ f => f.elim))) HY.out HAIM.out ?_)⟩
                  rw [← HM.out]
                  exact HR6.out.next HM7.out (fun k f => f.elim)
                case measure => simp only [intOf]; have := HJ.out; omega
        · obtain rfl : j = m := by omega
          have hpi : ¬ (j : Int) < (j : Int) := by omega
          have c0 := HO.out.res.cell (i := 0) rfl
          have c1 := HO.out.res.cell (i := 1) rfl
          have z0 := HO.out.res.free 0
          have z1 := HO.out.res.free 1
          have l0 := HO.out.res.lt
          have hF := HF.out.mods HO.out.mods (fun f => f)
          have g0 := hF.c0
          have g1 := hF.c1
          have hR : asmR s = .ok acc := by
            rw [asmR_out HLS.out HL.out, HO.out.left, show t.l.drop j = [] by rw [List.drop_eq_nil_iff, ← HM.out]; exact Nat.le_refl _]
            simp [outR]
          have HRR := Lib.hid hR
          have HOWN := HO.out.rows.ins
          rw [show t.l.drop j = [] by rw [List.drop_eq_nil_iff, ← HM.out]; exact Nat.le_refl _, List.map_nil, List.append_nil, ← HM.out] at HOWN
          have HOW := Lib.hid HOWN
          have HAL := Lib.hid HO.out.len
          clear hR HOWN
          go_upto_region 34 with (fail)
          go_region
          all_goals
            go_wp2_with fail
            have hz := set_res HO.out.res.drew (.int .i64 0) (.int .i64 (-1))
            have e0 := hz.1.cell (i := 0) rfl
            have e1 := hz.1.cell (i := 1) rfl
            have hz2 := set_res HO.out.res (.int .i64 0) (.int .i64 (-1))
            have e02 := hz2.1.cell (i := 0) rfl
            have e12 := hz2.1.cell (i := 1) rfl
            refine bodyPost_ret (v := .tuple #[.slice la j lc, .agg #[.int .i64 0, .int .i64 (-1)]]) (by simp [results, Tryz.results13, go_sem, e0, e1, e02, e12]) rfl ?_
            unfold AsmB
            rw [HRR.out]
            have hnb : ∀ (S : Nat → Prop) w', Mods S w5 w' → (∀ k, S k → k = h) → InsRow w' (.slice la j lc) acc := fun S w' hm hS => ⟨h + 3, by
              rw [HAL.out]
              exact hm.ownsRow HOW.out (fun k hk f => by have := hS k f; have := (HOW.out.lt k hk).1; omega)⟩
            first
              | exact ⟨⟨_, rfl, hnb _ _ ((((Mods.refl _ w5)).drew).trans hz.2) (fun k hk => hk)⟩, HO.out.mods.drew.trans' hz.2 (fun k hk hw => by have : k = h := hk; have := HH.out; omega)⟩
              | exact ⟨⟨_, rfl, hnb _ _ hz2.2.drew (fun k hk => hk)⟩, (HO.out.mods.trans' hz2.2 (fun k hk hw => by have : k = h := hk; have := HH.out; omega)).drew⟩
end Go.Proofs.YtodgkbcgdbhpeaaGreatDoor.AsmP

/- The law of the assembler's reading, walked: AsmReads. Conditions: the tables lie; Fine and errors.errorType lie; the instructions lie. -/
import Derived.Test.YtodgkbcgdbhpeaaGreatDoorAsRh
namespace Go.Proofs.YtodgkbcgdbhpeaaGreatDoor.AsmP
open Go.RowKit Go.Proofs.YtodgkbcgdbhpeaaGreatDoor.WordP Go.Proofs.YtodgkbcgdbhpeaaGreatDoor.Wo
set_option linter.unusedVariables false
set_option linter.unusedSimpArgs false
set_option maxRecDepth 100000 in
set_option maxHeartbeats 16000000 in
theorem reads_any (HRI : ∀ (u : List UInt8), u.length ≤ 1000000 → u ≠ [] → Lib.hasSuffix u [58] = false → ∀ W : World, Base W → Calls Tryz.prog 33 #[str u] W (InstP u W)) (s : List UInt8) (hs64 : s.length ≤ 9223372036854775807) (l : List Ins) (hx : ∀ x ∈ l, I64s x) (v : Value) (W : World) (hB : Base W) (hF : FineAt W) (hE : ErrP.ErrLaid W) (hI : InsIn W None v l) (hl64 : l.length ≤ 9223372036854775807) :
    Calls Tryz.prog 5 #[str s, v] W fun e w => e = .returned (.bool true) ∧ Mods None W w := by
  have HB := Lib.hid hB
  have HF := Lib.hid hF
  have HE := Lib.hid hE
  have HI := Lib.hid hI
  have HX := Lib.hid hx
  obtain ⟨oa, oc, rfl, -, -⟩ := hI
  obtain ⟨n, hn⟩ : ∃ n, n = l.length := ⟨_, rfl⟩
  have HN := Lib.hid hn
  rw [← hn] at hl64 ⊢
  clear hn hB hF hE hx
  by_cases h12 : 1200 < s.length
  · have h12i : (1200 : Int) < (s.length : Int) := by omega
    clear HRI
    unfold str
    go_enter Tryz.func5, Tryz.ntmps5
    go_wp2_with fail
    go_ret
    exact ⟨rfl, Mods.refl _ _⟩
  have h12i : ¬ (1200 : Int) < (s.length : Int) := by omega
  by_cases h40 : 40 < n
  · have h40i : (40 : Int) < (n : Int) := by omega
    clear HRI
    unfold str
    go_enter Tryz.func5, Tryz.ntmps5
    go_wp2_with fail
    go_ret
    exact ⟨rfl, Mods.refl _ _⟩
  have h40i : ¬ (40 : Int) < (n : Int) := by omega
  have HRA := Lib.hid (ref_asm HRI s (by omega) W HB.out HF.out)
  have HZ := Lib.hid (And.intro h12 h40)
  clear HRI h12 h40 hs64 hl64
  unfold str at HRA ⊢
  go_enter Tryz.func5, Tryz.ntmps5
  go_wp2_with fail
  refine HRA.out.mono ?_
  rintro e w1 hA
  obtain ⟨L, vw, c, a, rfl, hrow, his, hm1⟩ := hA.one
  have HL := Lib.hid hrow
  have HIS := Lib.hid his
  have HM1 := Lib.hid hm1
  clear hA hrow his hm1 HRA
  obtain ⟨bf, hbf⟩ : ∃ bf, bf = w1.heap.size := ⟨_, rfl⟩
  obtain ⟨w2, hw2⟩ : ∃ w2, w2 = w1.alloc (.cells #[.int .i64 c, .int .i64 a] 40) := ⟨_, rfl⟩
  have HM2 : Hid (Mods None w1 w2) := Lib.hid (by rw [hw2]; exact (Mods.refl _ _).alloc _)
  have HBF2 : Hid (Blk w2 bf [.int .i64 c, .int .i64 a] 40) := Lib.hid (by rw [hw2, hbf]; exact Blk.new w1 _ _)
  have HBW : Hid (W.heap.size ≤ bf) := Lib.hid (by rw [hbf]; exact HM1.out.size)
  have HMW2 := Lib.hid (HM1.out.trans HM2.out)
  have HAS := Lib.hid (assemble_any s (by have := HZ.out.1; omega) w2 (HB.out.next HMW2.out far_none))
  unfold str at HAS
  go_upto_region 4 with (fail)
  rw [← hw2, ← hbf]
  clear hw2 hbf
  go_wp2_with fail
  refine HAS.out.mono ?_
  rintro e w3 hA
  obtain ⟨vx, ev, rfl, hrow, his, hm3⟩ := hA.one HIS.out
  have HLX := Lib.hid hrow
  have HER := Lib.hid his
  have HM3 := Lib.hid hm3
  have HMW3 := Lib.hid (HMW2.out.trans hm3)
  have HBF3 := Lib.hid (HBF2.out.mods hm3 (fun f => f))
  have HLW := Lib.hid (HL.out.at_.mods (HM2.out.trans hm3) (fun k h => h))
  clear hA hrow his hm3 HAS HL HBF2 HM2 HMW2
  have q0 := HBF3.out.cell (i := 0) rfl
  have q1 := HBF3.out.cell (i := 1) rfl
  have HE3 := Lib.hid (show ErrP.ErrLaid w3 from HMW3.out.cellOf HE.out (fun f => f))
  have hLL : L.length ≤ 1000000 := by
    rcases HIS.out with ⟨h, -⟩ | ⟨p, -, -, h⟩
    · have := asmR_len h; have := HZ.out.1; omega
    · rw [h]; simp
  have HLL := Lib.hid hLL
  clear hLL
  go_wp2_with fail
  refine (HER.out w3 (Mods.refl _ _) HE3.out).mono ?_
  rintro e w4 ⟨rfl, hm4⟩
  have HM4 := Lib.hid hm4
  clear hm4 q0 q1
  go_wp2_with fail
  refine (same_one L HLL.out vx vw w4 (HLX.out.at_.mods HM4.out (fun k h => h)) (HLW.out.mods HM4.out (fun k h => h))).mono ?_
  rintro e w5 ⟨rfl, hm5⟩
  have HM5 := Lib.hid (HM4.out.trans hm5)
  clear hm5 HM4
  go_wp2_with fail
  refine (name_any s (by have := HZ.out.1; omega) w5).mono ?_
  rintro e w6 ⟨rfl, hm6⟩
  have HM6 := Lib.hid (HM5.out.trans hm6)
  clear hm6 HM5
  go_wp2_with fail
  refine (ref_name s (by have := HZ.out.1; omega) w6).mono ?_
  rintro e w' ⟨rfl, rfl⟩
  have hnn : (nameB s != nameB s) = false := by simp
  have HMW6 := Lib.hid (HMW3.out.trans HM6.out)
  have HBF6 := Lib.hid (HBF3.out.mods HM6.out (fun f => f))
  have HF6 := Lib.hid (HF.out.mods HMW6.out (fun f => f))
  have q0 := HBF6.out.cell (i := 0) rfl
  have q1 := HBF6.out.cell (i := 1) rfl
  have z0 := HBF6.out.free 0
  have z1 := HBF6.out.free 1
  have g0 := HF6.out.c0
  have g1 := HF6.out.c1
  have l0 := HBF6.out.lt
  go_upto_region 8 with (fail)
  obtain ⟨w7, hw7⟩ : ∃ q, q = (w6.setCell ⟨bf, 0, none⟩ (.int .i64 0)).setCell ⟨bf, 1, none⟩ (.int .i64 (-1)) := ⟨_, rfl⟩
  have hz := set_res HBF6.out (.int .i64 0) (.int .i64 (-1))
  rw [← hw7] at hz ⊢
  have HBF7 := Lib.hid hz.1
  have HMW7 := Lib.hid (HMW6.out.trans' hz.2 (fun k hk hw => by have : k = bf := hk; have := HBW.out; omega))
  have HBL : Hid (bf < w7.heap.size) := Lib.hid HBF7.out.lt
  obtain ⟨i0, hi0, hz0, hz1, hz2⟩ := info_parts u32_info
  have HI0 := Lib.hid (⟨hi0, hz0, hz1, hz2⟩ : _ ∧ _ ∧ _ ∧ _)
  clear hz hw7 q0 q1 z0 z1 g0 g1 l0 hnn hi0 hz0 hz1 hz2 HMW6 HBF6 HF6 HM6 HE3 HLL HLX HLW HER HM3 HMW3 HBF3 HIS HM1
  have hn40 : n ≤ 40 := by have := HZ.out.2; omega
  go_wp2_with fail
  go_loopw [9, 10] (fun wv iv wr => ∃ (i : Nat) (fe fp : Int), i ≤ n ∧ iv = .int .i64 i ∧ Hid (Blk wr bf [.int .i64 fe, .int .i64 fp] 40 ∧ wr.ownsRow w7.heap.size 49 1 wv i (refRow (l.take i)) ∧ FltIs l i fe fp ∧ Mods (fun k => k = bf) w7 wr)) (fun _ iv _ => (n - intOf iv).toNat)
  case atStart => exact ⟨0, 0, -1, Nat.zero_le _, rfl, Lib.hid ⟨HBF7.out, World.ownsRow_nil _ _ _ _, .inl ⟨fun y hy => by simp at hy, rfl, rfl⟩, Mods.refl _ _⟩⟩
  case round =>
    obtain ⟨i, fe, fp, hi, rfl, HO⟩ := hrel
    obtain ⟨sa, sc, rfl⟩ := row_form HO.out.2.1
    have HMr := Lib.hid (HMW7.out.trans' HO.out.2.2.2 (fun k hk hw => by have : k = bf := hk; have := HBW.out; omega))
    by_cases hlt : i < n
    · obtain ⟨x, hxi⟩ : ∃ x, l[i]? = some x := ⟨_, List.getElem?_eq_getElem (by rw [← HN.out]; exact hlt)⟩
      obtain ⟨oa', oc', he, -, hc⟩ := HI.out.mods HMr.out (fun k h => h)
      obtain ⟨g, o, rfl, -, d0, d1, d2, d3, d4⟩ := hc i x hxi
      simp only [Value.slice.injEq] at he
      obtain ⟨rfl, -, rfl⟩ := he
      have hin : (i : Int) < n := by omega
      have HXI := Lib.hid hxi
      have HLT := Lib.hid hlt
      have hxx := HX.out x (List.mem_of_getElem? hxi)
      have HXX := Lib.hid hxx
      have HPQ := Lib.hid (print_ref x hxx wr (HB.out.next HMr.out far_none))
      clear hc hxi hxx
      simp only [Ins.val] at HPQ
      cases hr : x.right with
      | true =>
        have HRX := Lib.hid hr
        clear hr
        go_wp2_with fail
        refine HPQ.out.mono ?_
        rintro e w8 ⟨rfl, hm8⟩
        rw [if_pos HRX.out]
        have HM8 := Lib.hid hm8
        have a0 := HM8.out.cellOf d0 (fun f => f)
        have a1 := HM8.out.cellOf d1 (fun f => f)
        have a2 := HM8.out.cellOf d2 (fun f => f)
        have a3 := HM8.out.cellOf d3 (fun f => f)
        have a4 := HM8.out.cellOf d4 (fun f => f)
        have HPA := Lib.hid (print_any x HXX.out w8 (HB.out.next (HMr.out.trans HM8.out) far_none))
        simp only [Ins.val] at HPA
        clear hm8 HPQ d0 d1 d2 d3 d4
        unfold str
        go_wp2_with fail
        refine HPA.out.mono ?_
        rintro e w9 ⟨rfl, hm9⟩
        rw [if_pos HRX.out]
        have HM9 := Lib.hid (HM8.out.trans hm9)
        have b0 := hm9.cellOf a0 (fun f => f)
        have b1 := hm9.cellOf a1 (fun f => f)
        have b2 := hm9.cellOf a2 (fun f => f)
        have b3 := hm9.cellOf a3 (fun f => f)
        have b4 := hm9.cellOf a4 (fun f => f)
        have HBR := Lib.hid (ErrP.bare_nil 0 w9)
        clear hm9 HPA a0 a1 a2 a3 a4 HM8
        unfold str
        have hne : (printB x != printB x) = false := by simp
        go_wp2_with fail
        refine HBR.out.mono ?_
        rintro e w10 ⟨rfl, hm10⟩
        have HM10 := Lib.hid (HM9.out.trans hm10)
        have c0 := hm10.cellOf b0 (fun f => f)
        have c1 := hm10.cellOf b1 (fun f => f)
        have c2 := hm10.cellOf b2 (fun f => f)
        have c3 := hm10.cellOf b3 (fun f => f)
        have c4 := hm10.cellOf b4 (fun f => f)
        have HEN := Lib.hid (RefP.enc_ref x w10 HRX.out)
        simp only [Ins.val] at HEN
        clear hm10 HBR b0 b1 b2 b3 b4 HM9
        go_wp2_with fail
        refine HEN.out.mono ?_
        rintro e w11 ⟨rfl, hm11⟩
        have HM11 := Lib.hid (HM10.out.trans hm11)
        have HB11 := Lib.hid (HO.out.1.mods HM11.out (fun f => f))
        have HM11b : Hid (Mods (fun k => k = bf) wr w11) := Lib.hid (HM11.out.mono (fun k _ f => f.elim))
        clear hm11 HEN c0 c1 c2 c3 c4 HM10
        have HO4 := Lib.hid ((HM11b.out.ownsRow HO.out.2.1 (fun k hk f => by have f2 : k = bf := f; have := (HO.out.2.1.lt k hk).1; have := HBL.out; omega)).alloc (.cells #[.int .u32 x.word] 49))
        have hbz : w7.heap.size ≤ w11.heap.size := (HO.out.2.2.2.trans HM11b.out).size
        go_wp2_with (at_builtin; refine wpList_append_own_at _ rfl _ _ 45 rfl w7.heap.size 49 i0 _ 1 4 Tryz.underlying45 HI0.out.1 HI0.out.2.1 HI0.out.2.2.1 HI0.out.2.2.2 rfl (by decide) (.slice sa i sc) i (refRow (l.take i)) rfl HO4.out ⟨w11.heap.size, 0, none⟩ 1 1 [.int .u32 x.word] rfl rfl (cell_one_new _ _ _) (wone _) (by unfold maxLen; omega) (by omega) (by simp; omega) ?_; intro v' w20 hown hgrow hnil hloc; have HOW := Lib.hid hown; have HGR := Lib.hid hgrow; clear hown hgrow hnil hloc; refine Hid.out ?_)
        refine Lib.hid ?_
        obtain ⟨qa, qc, rfl⟩ := row_form HOW.out
        go_wp2_with fail
        have hmg := Mods.of_grownBy (S := fun k => (Value.slice sa i sc).ownBlock = some k) HGR.out (fun k hk _ => hk)
        have hown := HOW.out
        have hrn := refRow_next HXI.out
        rw [if_pos HRX.out] at hrn
        rw [← hrn] at hown
        go_roundw
        case rel =>
          refine ⟨i + 1, fe, fp, by have := HLT.out; omega, by go_num, Lib.hid ⟨(HB11.out.alloc _).mods hmg (fun f => ?_), hown, flt_yes HO.out.2.2.1 HXI.out HRX.out, ?_⟩⟩
          · have := (HO.out.2.1.lt bf f).1
            have := HBL.out
            omega
          · exact (HO.out.2.2.2.trans (HM11b.out.alloc _)).trans' hmg (fun k hk hw => by have := (HO.out.2.1.lt k hk).1; omega)
        case measure => simp only [intOf]; have := HLT.out; omega
      | false =>
        have HRX := Lib.hid hr
        clear hr
        go_wp2_with fail
        refine HPQ.out.mono ?_
        rintro e w8 ⟨rfl, hm8⟩
        rw [if_neg (by rw [HRX.out]; decide)]
        have HM8 := Lib.hid hm8
        have a0 := HM8.out.cellOf d0 (fun f => f)
        have a1 := HM8.out.cellOf d1 (fun f => f)
        have a2 := HM8.out.cellOf d2 (fun f => f)
        have a3 := HM8.out.cellOf d3 (fun f => f)
        have a4 := HM8.out.cellOf d4 (fun f => f)
        have HPA := Lib.hid (print_any x HXX.out w8 (HB.out.next (HMr.out.trans HM8.out) far_none))
        simp only [Ins.val] at HPA
        clear hm8 HPQ d0 d1 d2 d3 d4
        unfold str
        go_wp2_with fail
        refine HPA.out.mono ?_
        rintro e w9 ⟨rfl, hm9⟩
        rw [if_neg (by rw [HRX.out]; decide)]
        have HM9 := Lib.hid (HM8.out.trans hm9)
        have b0 := hm9.cellOf a0 (fun f => f)
        have b1 := hm9.cellOf a1 (fun f => f)
        have b2 := hm9.cellOf a2 (fun f => f)
        have b3 := hm9.cellOf a3 (fun f => f)
        have b4 := hm9.cellOf a4 (fun f => f)
        have HBR := Lib.hid (ErrP.bare_errno 1 1 w9 (show ErrP.ErrLaid w9 from (HMr.out.trans HM9.out).cellOf HE.out (fun f => f)))
        clear hm9 HPA a0 a1 a2 a3 a4 HM8
        unfold str
        have hne : (([] : List UInt8) != []) = false := by simp
        go_wp2_with fail
        refine HBR.out.mono ?_
        rintro e w10 ⟨rfl, hm10⟩
        have HM10 := Lib.hid (HM9.out.trans hm10)
        have c0 := hm10.cellOf b0 (fun f => f)
        have c1 := hm10.cellOf b1 (fun f => f)
        have c2 := hm10.cellOf b2 (fun f => f)
        have c3 := hm10.cellOf b3 (fun f => f)
        have c4 := hm10.cellOf b4 (fun f => f)
        have HEN := Lib.hid (RefP.enc_not x w10 HRX.out)
        simp only [Ins.val] at HEN
        clear hm10 HBR b0 b1 b2 b3 b4 HM9
        go_wp2_with fail
        refine HEN.out.mono ?_
        rintro e w11 ⟨rfl, hm11⟩
        have HM11 := Lib.hid (HM10.out.trans hm11)
        have HB11 := Lib.hid (HO.out.1.mods HM11.out (fun f => f))
        have HM11b : Hid (Mods (fun k => k = bf) wr w11) := Lib.hid (HM11.out.mono (fun k _ f => f.elim))
        clear hm11 HEN c0 c1 c2 c3 c4 HM10
        have hF11 := HF.out.mods (HMr.out.trans HM11.out) (fun f => f)
        have g0 := hF11.c0
        have g1 := hF11.c1
        have q0 := HB11.out.cell (i := 0) rfl
        have q1 := HB11.out.cell (i := 1) rfl
        have z0 := HB11.out.free 0
        have z1 := HB11.out.free 1
        have l0 := HB11.out.lt
        rcases HO.out.2.2.1 with ⟨hall, rfl, rfl⟩ | ⟨j, hj, hbad, rfl, rfl⟩
        · have HALL := Lib.hid hall
          clear hall
          go_upto_region 19 with (fail)
          obtain ⟨w12, hw12⟩ : ∃ q, q = (w11.setCell ⟨bf, 0, none⟩ (.int .i64 1)).setCell ⟨bf, 1, none⟩ (.int .i64 (i : Int)) := ⟨_, rfl⟩
          have hz := set_res HB11.out (.int .i64 1) (.int .i64 (i : Int))
          rw [← hw12] at hz ⊢
          have HB12 := Lib.hid hz.1
          have HM12 := Lib.hid (HM11b.out.trans hz.2)
          clear hz hw12 hF11 g0 g1 q0 q1 z0 z1 l0
          have HO4 := Lib.hid ((HM12.out.ownsRow HO.out.2.1 (fun k hk f => by have f2 : k = bf := f; have := (HO.out.2.1.lt k hk).1; have := HBL.out; omega)).alloc (.cells #[.int .u32 0] 49))
          have hbz : w7.heap.size ≤ w12.heap.size := (HO.out.2.2.2.trans HM12.out).size
          go_wp2_with (at_builtin; refine wpList_append_own_at _ rfl _ _ 45 rfl w7.heap.size 49 i0 _ 1 4 Tryz.underlying45 HI0.out.1 HI0.out.2.1 HI0.out.2.2.1 HI0.out.2.2.2 rfl (by decide) (.slice sa i sc) i (refRow (l.take i)) rfl HO4.out ⟨w12.heap.size, 0, none⟩ 1 1 [.int .u32 0] rfl rfl (cell_one_new _ _ _) (wone _) (by unfold maxLen; omega) (by omega) (by simp; omega) ?_; intro v' w20 hown hgrow hnil hloc; have HOW := Lib.hid hown; have HGR := Lib.hid hgrow; clear hown hgrow hnil hloc; refine Hid.out ?_)
          refine Lib.hid ?_
          obtain ⟨qa, qc, rfl⟩ := row_form HOW.out
          go_wp2_with fail
          have hmg := Mods.of_grownBy (S := fun k => (Value.slice sa i sc).ownBlock = some k) HGR.out (fun k hk _ => hk)
          have hown := HOW.out
          have hrn := refRow_next HXI.out
          rw [if_neg (by rw [HRX.out]; decide)] at hrn
          rw [← hrn] at hown
          go_roundw
          case rel =>
            refine ⟨i + 1, 1, (i : Int), by have := HLT.out; omega, by go_num, Lib.hid ⟨(HB12.out.alloc _).mods hmg (fun f => ?_), hown, flt_new HALL.out HXI.out HRX.out, ?_⟩⟩
            · have := (HO.out.2.1.lt bf f).1
              have := HBL.out
              omega
            · exact (HO.out.2.2.2.trans (HM12.out.alloc _)).trans' hmg (fun k hk hw => by have := (HO.out.2.1.lt k hk).1; omega)
          case measure => simp only [intOf]; have := HLT.out; omega
        · have HJ := Lib.hid (And.intro hj hbad)
          clear hj hbad hF11
          have HO4 := Lib.hid ((HM11b.out.ownsRow HO.out.2.1 (fun k hk f => by have f2 : k = bf := f; have := (HO.out.2.1.lt k hk).1; have := HBL.out; omega)).alloc (.cells #[.int .u32 0] 49))
          have hbz : w7.heap.size ≤ w11.heap.size := (HO.out.2.2.2.trans HM11b.out).size
          go_wp2_with (at_builtin; refine wpList_append_own_at _ rfl _ _ 45 rfl w7.heap.size 49 i0 _ 1 4 Tryz.underlying45 HI0.out.1 HI0.out.2.1 HI0.out.2.2.1 HI0.out.2.2.2 rfl (by decide) (.slice sa i sc) i (refRow (l.take i)) rfl HO4.out ⟨w11.heap.size, 0, none⟩ 1 1 [.int .u32 0] rfl rfl (cell_one_new _ _ _) (wone _) (by unfold maxLen; omega) (by omega) (by simp; omega) ?_; intro v' w20 hown hgrow hnil hloc; have HOW := Lib.hid hown; have HGR := Lib.hid hgrow; clear hown hgrow hnil hloc; refine Hid.out ?_)
          refine Lib.hid ?_
          obtain ⟨qa, qc, rfl⟩ := row_form HOW.out
          go_wp2_with fail
          have hmg := Mods.of_grownBy (S := fun k => (Value.slice sa i sc).ownBlock = some k) HGR.out (fun k hk _ => hk)
          have hown := HOW.out
          have hrn := refRow_next HXI.out
          rw [if_neg (by rw [HRX.out]; decide)] at hrn
          rw [← hrn] at hown
          go_roundw
          case rel =>
            refine ⟨i + 1, 1, (j : Int), by have := HLT.out; omega, by go_num, Lib.hid ⟨(HB11.out.alloc _).mods hmg (fun f => ?_), hown, flt_old HJ.out.1 HJ.out.2, ?_⟩⟩
            · have := (HO.out.2.1.lt bf f).1
              have := HBL.out
              omega
            · exact (HO.out.2.2.2.trans (HM11b.out.alloc _)).trans' hmg (fun k hk hw => by have := (HO.out.2.1.lt k hk).1; omega)
          case measure => simp only [intOf]; have := HLT.out; omega
    · obtain rfl : i = n := by omega
      have hpi : ¬ (i : Int) < (i : Int) := by omega
      have hfull : l.take i = l := List.take_of_length_le (by rw [← HN.out]; exact Nat.le_refl _)
      have HFU := Lib.hid hfull
      have HWD := Lib.hid (words_any l (by rw [← HN.out]; omega) (.slice oa i oc) wr (HB.out.next HMr.out far_none) (by have := HI.out.mods HMr.out (fun k h => h); rw [← HN.out] at this; exact this))
      clear hfull hlt
      go_wp2_with fail
      refine HWD.out.mono ?_
      rintro e w8 ⟨hP, hm8⟩
      have HM8 := Lib.hid hm8
      have HB8 := Lib.hid (HO.out.1.mods hm8 (fun f => f))
      have HMW8 := Lib.hid (HMr.out.trans hm8)
      have HF8 := Lib.hid (HF.out.mods HMW8.out (fun f => f))
      have q0 := HB8.out.cell (i := 0) rfl
      have q1 := HB8.out.cell (i := 1) rfl
      clear hm8 HWD
      rcases hP with ⟨hall, gv, gB, rfl, hgrow⟩ | ⟨j, gg, hbad, rfl, hgb⟩
      · have HALL := Lib.hid hall
        have HGW := Lib.hid hgrow
        obtain ⟨rfl, rfl⟩ : fe = 0 ∧ fp = -1 := by
          rcases HO.out.2.2.1 with ⟨-, h1, h2⟩ | ⟨j, -, hb, -⟩
          · exact ⟨h1, h2⟩
          · exact (bad_not hall hb).elim
        obtain ⟨ga, gc, rfl⟩ := row_form HGW.out
        rw [← HN.out] at HGW ⊢
        clear hall hgrow
        go_wp2_with fail
        refine (ErrP.is_nil 0 w8).mono ?_
        rintro e w9 ⟨rfl, hm9⟩
        have HM9 := Lib.hid (HM8.out.trans hm9)
        have HMW9 := Lib.hid (HMW8.out.trans hm9)
        have HB9 := Lib.hid (HB8.out.mods hm9 (fun f => f))
        have HF9 := Lib.hid (HF8.out.mods hm9 (fun f => f))
        have HG9 := Lib.hid (hm9.ownsRow HGW.out (fun k hk f => f))
        have HR9 := Lib.hid (HM9.out.ownsRow HO.out.2.1 (fun k hk f => f))
        rw [HFU.out, refRow_all HALL.out] at HR9
        clear hm9 q0 q1
        have q0 := HB9.out.cell (i := 0) rfl
        have q1 := HB9.out.cell (i := 1) rfl
        have g0 := HF9.out.c0
        have g1 := HF9.out.c1
        clear HGW HB8 HF8 HMW8 HM8
        clear hpi
        go_upto_region 23 with (fail)
        go_wp2_with fail
        go_loopw [17] (fun iv wr2 => ∃ j : Nat, j ≤ i ∧ iv = .int .i64 j ∧ Hid (Mods None w9 wr2)) (fun iv _ => (i - intOf iv).toNat)
        case atStart => exact ⟨0, Nat.zero_le _, rfl, Lib.hid (Mods.refl _ _)⟩
        case round =>
          obtain ⟨w10, rfl⟩ : ∃ q : World, q = wr := ⟨_, rfl⟩
          obtain ⟨j, hj, rfl, HJ⟩ := hrel
          by_cases hlt2 : j < i
          · obtain ⟨x, hxj⟩ : ∃ x, l[j]? = some x := ⟨_, List.getElem?_eq_getElem (by rw [← HN.out]; exact hlt2)⟩
            have hjn : (j : Int) < i := by omega
            have HG10 := HJ.out.ownsRow HG9.out (fun k hk f => f)
            have HR10 := HJ.out.ownsRow HR9.out (fun k hk f => f)
            obtain ⟨ag, rfl, -, -, hga, -⟩ := row_cell HG10 (by omega)
            obtain ⟨az, rfl, -, -, hsa, -⟩ := row_cell HR10 (by omega)
            have e1 := hga j (by omega)
            have e2 := hsa j (by omega)
            have hw : (wordsRow l)[j]? = some (.int .u32 x.word) := by
              unfold wordsRow
              rw [List.getElem?_map, hxj]
              rfl
            rw [hw] at e1 e2
            have HLT := Lib.hid hlt2
            clear hga hsa hw HG10 HR10 hxj
            go_upto_region 26 with (fail)
            go_region
            all_goals
              go_wp2_with fail
              exact ⟨⟨j + 1, by have := HLT.out; omega, by go_num, Lib.hid HJ.out.drew⟩, by simp [intOf]; have := HLT.out; omega⟩
          · obtain rfl : j = i := by omega
            have hpi : ¬ (j : Int) < (j : Int) := by omega
            go_wp2_with fail
            go_ret
            exact ⟨rfl, HMW9.out.trans HJ.out⟩
      · have HBD := Lib.hid hbad
        have HGB := Lib.hid hgb
        obtain ⟨rfl, rfl⟩ : fe = 1 ∧ fp = (j : Int) := by
          rcases HO.out.2.2.1 with ⟨h0, -, -⟩ | ⟨k, -, hb, h1, h2⟩
          · rw [HFU.out] at h0
            exact (bad_not h0 hbad).elim
          · obtain rfl := bad_one hb hbad
            exact ⟨h1, h2⟩
        clear hbad hgb
        go_wp2_with fail
        refine (ErrP.is_at 1 (j : Int) gg w8 (show ErrP.ErrLaid w8 from HMW8.out.cellOf HE.out (fun f => f)) HGB.out).mono ?_
        rintro e w9 ⟨rfl, hm9⟩
        have HM9 := Lib.hid hm9
        have HMW9 := Lib.hid (HMW8.out.trans hm9)
        have HB9 := Lib.hid (HB8.out.mods hm9 (fun f => f))
        have HF9 := Lib.hid (HF8.out.mods hm9 (fun f => f))
        clear hm9 q0 q1
        have q0 := HB9.out.cell (i := 0) rfl
        have q1 := HB9.out.cell (i := 1) rfl
        have g0 := HF9.out.c0
        have g1 := HF9.out.c1
        go_wp2_with fail
        refine (ErrP.is_at 1 (j : Int) gg w9 (show ErrP.ErrLaid w9 from HMW9.out.cellOf HE.out (fun f => f)) (HGB.out.mods HM9.out (fun f => f))).mono ?_
        rintro e w10 ⟨rfl, hm10⟩
        have HMW10 := Lib.hid (HMW9.out.trans hm10)
        clear hm10 q0 q1 g0 g1
        go_wp2_with fail
        go_ret
        exact ⟨rfl, HMW10.out⟩
end Go.Proofs.YtodgkbcgdbhpeaaGreatDoor.AsmP

/- The document's reader: - and !, and what they are of; what is behind [ and ]. Conditions: what is read within is read so. -/
import Derived.Test.YtdgedlhefjmcpaaGreatDoorRefExpr
namespace Go.Proofs.YtdgedlhefjmcpaaGreatDoor.TreeP.R
open Go.RowKit Go.Proofs.YtdgedlhefjmcpaaGreatDoor.Wo Go.Proofs.YtdgedlhefjmcpaaGreatDoor.TreeP
set_option linter.unusedVariables false
set_option linter.unusedSimpArgs false
theorem al_cell {w : World} {o : Obj} {p : Addr} {v : Value} (h : w.cell? p = some v) : (w.alloc o).cell? p = some v := ((Mods.refl None w).alloc o).cellOf h (fun f => f)
/-- Where the second loop stands. -/
def Items (S : Nat → Prop) (b q f deep : Nat) (a : Int) (W : World) (x : Except (Int × Int) (Ex × List Tok)) (xv : Value) (wr : World) : Prop :=
  wr.cell? ⟨q, 2, none⟩ = some (.int .i64 a) ∧ ((∃ ff y r, ff ≤ f ∧ itemF ff deep a y r = some x ∧ ExAt wr S y xv ∧ Rd wr b S r ∧ Mods (· = b) W wr) ∨ (∃ n p pv, x = .error (n, p) ∧ xv = .pointer pv ∧ Rb wr b S n p ∧ Mods (· = b) W wr))
set_option maxRecDepth 100000 in
set_option maxHeartbeats 1600000 in
theorem one_of (f : Nat) (hU : UnaryC f) (hF : FirstC f) (hE : ∀ g, g ≤ f → ExprC g) : UnaryC (f + 1) := by
  intro b S deep ts W x hd h hx
  simp only [unaryF] at hx
  have HR := Lib.hid h
  have HM := Lib.hid (Mods.refl (· = b) W)
  have HD := Lib.hid hd
  have hds : Hid ((deep : Int) + 1 = ((deep + 1 : Nat) : Int)) := Lib.hid (by omega)
  have hd0 : 0 ≤ (deep : Int) ∧ (deep : Int) ≤ 14 := by omega
  by_cases hdd : 12 < deep
  · rw [if_pos hdd] at hx
    have HX := Lib.hid hx
    have hg : 12 < (deep : Int) := by omega
    clear hx hdd h hd
    go_enter Tryz.func136, Tryz.ntmps136
    go_wp2_with fail
    go_at_call 43
    refine fail_of HM HR HX (Or.inr rfl) ?_
    rintro n a rfl w HB - HM1
    go_wp2_with fail
    go_at_call 42
    refine okb_of HM1 HB ?_
    rintro w2 HB2 - HM2
    go_wp2
    go_ret
    exact ⟨_, rfl, ⟨_, rfl⟩, HB2.out, HM2.out⟩
  rw [if_neg hdd] at hx
  have hg : ¬ 12 < (deep : Int) := by omega
  have HD2 := Lib.hid hdd
  obtain ⟨t, rr, hts⟩ := ends_cons h.par.ends
  obtain ⟨ta, hta⟩ : ∃ ta, ta = headAt ts := ⟨_, rfl⟩
  rw [← hta] at hx
  have HX := Lib.hid hx
  have HTS := Lib.hid (And.intro hts hta)
  clear hx h hd hdd hts hta
  go_enter Tryz.func136, Tryz.ntmps136
  go_wp2_with fail
  go_at_call 42
  refine ok_of HM HR ?_
  rintro w1 HR1 - HM1
  obtain ⟨g, o, c, hp⟩ := HR1.out.par
  obtain ⟨e1, e2⟩ := HTS.out
  rw [e1] at hp
  have hl := hp.cl
  have hk := hp.ck
  have ht := hp.ct
  have ha := hp.ca
  have hcap := hp.cap
  have hmax := hp.max
  simp only [List.length_cons] at hcap
  have hta : t.at_ = ta := by rw [e2, e1]; rfl
  obtain ⟨tk, tt, ta1⟩ := t
  simp only at hk ht ha hta
  subst hta
  clear hp e1 e2
  obtain ⟨W2, hW2⟩ : ∃ W2, W2 = w1.alloc (.cells #[.int .i64 tk, .string ⟨tt.toArray⟩, .int .i64 ta1] 95) := ⟨_, rfl⟩
  have hm2 : Mods None w1 W2 := by rw [hW2]; exact (Mods.refl _ _).alloc _
  have HB0 : Hid (Blk W2 w1.heap.size [.int .i64 tk, .string ⟨tt.toArray⟩, .int .i64 ta1] 95) := Lib.hid (by rw [hW2]; exact Blk.new w1 _ _)
  have HR2 := Lib.hid (HR1.out.quiet hm2)
  have HM2 := Lib.hid (HM1.out.trans (mods_b hm2))
  have hne : Hid (¬ w1.heap.size = b) := Lib.hid (by have := HR1.out.base.old b HR1.out.base.has; omega)
  have HTX : Hid (seeB [45] ts = true → tt = [45]) := Lib.hid (by
    intro hs
    rw [HTS.out.1] at hs
    simp only [seeB, headText, List.head?_cons, Option.map_some, Option.getD_some, Bool.and_eq_true, beq_iff_eq] at hs
    exact hs.1)
  have HTX2 : Hid (seeB [33] ts = true → tt = [33]) := Lib.hid (by
    intro hs
    rw [HTS.out.1] at hs
    simp only [seeB, headText, List.head?_cons, Option.map_some, Option.getD_some, Bool.and_eq_true, beq_iff_eq] at hs
    exact hs.1)
  clear hm2 HTS HR1 HM1 HR HM
  go_wp2_with fail
  rw [← hW2]
  clear hW2 hl hk ht ha
  go_at_call 46
  refine take_of (s := [45]) HM2 HR2 HX ?_ ?_
  · clear HX
    rintro hs HX w3 HR3 hm3 HM3
    obtain rfl := HTX.out hs.out
    have hc1 := (HB0.out.mods hm3.out hne.out).cell (i := 1) rfl
    have hc2 := (HB0.out.mods hm3.out hne.out).cell (i := 2) rfl
    have HRd := Lib.hid (HR3.out.quiet (Mods.refl None w3).drew)
    have HMd := Lib.hid HM3.out.drew
    have hw1 : IntKind.i64.wrap ((deep : Int) + 1) = (deep : Int) + 1 := IntWalk.i64_in _ (by omega)
    go_wp2_with fail
    rcases bind_cases HX with ⟨n, a, hy, rfl⟩ | ⟨v, r, hy, HX2⟩
    · have HC := Lib.hid (hU b S (deep + 1) ts.tail _ _ (by have := HD2.out; omega) HRd.out hy)
      rw [← hds.out] at HC
      clear hy HX
      go_region_held3 (fun w' => w'.cell? ⟨w1.heap.size, 1, none⟩ = some (.string ⟨#[45]⟩) ∧ w'.cell? ⟨w1.heap.size, 2, none⟩ = some (.int .i64 ta1))
        (first | exact ⟨hc1, hc2⟩ | assumption | (go_split_ands; exact ⟨hm4.cellOf ‹_› hne.out, hm4.cellOf ‹_› hne.out⟩) | (go_split_ands; exact ⟨al_cell ‹_›, al_cell ‹_›⟩))
        ((first | (go_at_call 136; refine HC.out.mono ?_; rintro e w4 ⟨xv, rfl, ⟨p4, rfl⟩, hb4, hm4⟩)))
      all_goals
        have HB4 := Lib.hid hb4
        have HM4 := Lib.hid (HMd.out.trans hm4)
        clear hb4 hm4
        go_wp2
        go_ret
        exact ⟨_, rfl, ⟨_, rfl⟩, HB4.out.quiet ((Mods.refl _ _).alloc _), HM4.out.alloc _⟩
    · have HC := Lib.hid (hU b S (deep + 1) ts.tail _ _ (by have := HD2.out; omega) HRd.out hy)
      rw [← hds.out] at HC
      clear hy HX
      obtain rfl := (Option.some.inj HX2.out).symm
      go_region_held3 (fun w' => w'.cell? ⟨w1.heap.size, 1, none⟩ = some (.string ⟨#[45]⟩) ∧ w'.cell? ⟨w1.heap.size, 2, none⟩ = some (.int .i64 ta1))
        (first | exact ⟨hc1, hc2⟩ | assumption | (go_split_ands; exact ⟨hm4.cellOf ‹_› hne.out, hm4.cellOf ‹_› hne.out⟩) | (go_split_ands; exact ⟨al_cell ‹_›, al_cell ‹_›⟩))
        ((first | (go_at_call 136; refine HC.out.mono ?_; rintro e w4 ⟨xv, rfl, hv4, hp4, hm4⟩; obtain ⟨g4, rfl⟩ := ExAt.ptr hv4)))
      all_goals
        have HR4 := Lib.hid (HRd.out.next hp4 hm4)
        have HV4 := Lib.hid (show ExAt w4 S v _ from hv4)
        have HM4 := Lib.hid (HMd.out.trans hm4)
        clear hp4 hm4 hv4
        go_wp2
        go_ret
        refine ⟨_, rfl, ?_, HR4.out.par.mods ((Mods.refl _ _).alloc _), HM4.out.alloc _⟩
        simp only [ExIs, ExAt]
        exact ⟨_, Node.new HR4.out.base.old _, HV4.out.mods ((Mods.refl _ _).alloc _)⟩
  · clear HX
    rintro - HX w3 HR3 hm3 HM3
    have HB3 := Lib.hid (HB0.out.mods hm3.out (fun f => f))
    clear HB0 hm3 HR2 HM2
    go_wp2_with fail
    go_at_call 46
    have HB0 := HB3
    refine take_of (s := [33]) HM3 HR3 HX ?_ ?_
    · clear HX HB3
      rintro hs HX w5 HR5 hm5 HM5
      obtain rfl := HTX2.out hs.out
      have hc1 := (HB0.out.mods hm5.out hne.out).cell (i := 1) rfl
      have hc2 := (HB0.out.mods hm5.out hne.out).cell (i := 2) rfl
      have HRd := Lib.hid (HR5.out.quiet (Mods.refl None w5).drew)
      have HMd := Lib.hid HM5.out.drew
      have hw1 : IntKind.i64.wrap ((deep : Int) + 1) = (deep : Int) + 1 := IntWalk.i64_in _ (by omega)
      go_wp2_with fail
      rcases bind_cases HX with ⟨n, a, hy, rfl⟩ | ⟨v, r, hy, HX2⟩
      · have HC := Lib.hid (hU b S (deep + 1) ts.tail _ _ (by have := HD2.out; omega) HRd.out hy)
        rw [← hds.out] at HC
        clear hy HX
        go_region_held3 (fun w' => w'.cell? ⟨w1.heap.size, 1, none⟩ = some (.string ⟨#[33]⟩) ∧ w'.cell? ⟨w1.heap.size, 2, none⟩ = some (.int .i64 ta1))
          (first | exact ⟨hc1, hc2⟩ | assumption | (go_split_ands; exact ⟨hm4.cellOf ‹_› hne.out, hm4.cellOf ‹_› hne.out⟩) | (go_split_ands; exact ⟨al_cell ‹_›, al_cell ‹_›⟩))
          ((first | (go_at_call 136; refine HC.out.mono ?_; rintro e w4 ⟨xv, rfl, ⟨p4, rfl⟩, hb4, hm4⟩)))
        all_goals
          have HB4 := Lib.hid hb4
          have HM4 := Lib.hid (HMd.out.trans hm4)
          clear hb4 hm4
          go_wp2
          go_ret
          exact ⟨_, rfl, ⟨_, rfl⟩, HB4.out.quiet ((Mods.refl _ _).alloc _), HM4.out.alloc _⟩
      · have HC := Lib.hid (hU b S (deep + 1) ts.tail _ _ (by have := HD2.out; omega) HRd.out hy)
        rw [← hds.out] at HC
        clear hy HX
        obtain rfl := (Option.some.inj HX2.out).symm
        go_region_held3 (fun w' => w'.cell? ⟨w1.heap.size, 1, none⟩ = some (.string ⟨#[33]⟩) ∧ w'.cell? ⟨w1.heap.size, 2, none⟩ = some (.int .i64 ta1))
          (first | exact ⟨hc1, hc2⟩ | assumption | (go_split_ands; exact ⟨hm4.cellOf ‹_› hne.out, hm4.cellOf ‹_› hne.out⟩) | (go_split_ands; exact ⟨al_cell ‹_›, al_cell ‹_›⟩))
          ((first | (go_at_call 136; refine HC.out.mono ?_; rintro e w4 ⟨xv, rfl, hv4, hp4, hm4⟩; obtain ⟨g4, rfl⟩ := ExAt.ptr hv4)))
        all_goals
          have HR4 := Lib.hid (HRd.out.next hp4 hm4)
          have HV4 := Lib.hid (show ExAt w4 S v _ from hv4)
          have HM4 := Lib.hid (HMd.out.trans hm4)
          clear hp4 hm4 hv4
          go_wp2
          go_ret
          refine ⟨_, rfl, ?_, HR4.out.par.mods ((Mods.refl _ _).alloc _), HM4.out.alloc _⟩
          simp only [ExIs, ExAt]
          exact ⟨_, Node.new HR4.out.base.old _, HV4.out.mods ((Mods.refl _ _).alloc _)⟩
    · clear HX
      rintro - HX w5 HR5 hm5 HM5
      have HB5 := Lib.hid (HB0.out.mods hm5.out (fun f => f))
      have hc2 := HB5.out.cell (i := 2) rfl
      clear HB0 HB3 hm5 HR3 HM3 HTX HTX2
      go_wp2_with fail
      go_at_call 156
      refine Calls.mono (R := fun e w => ∃ xv, e = .returned xv ∧ (∃ p, xv = .pointer p) ∧ Items S b w1.heap.size f deep ta1 W x xv w) ?_ ?_
      · refine bind_of HM5 HR5 HX (fun y hy => hF b S deep ts w5 y (by have := HD2.out; omega) HR5.out hy) ?_ ?_
        · rintro n a rfl xv w ⟨p, rfl⟩ HB hm6 HM6
          exact ⟨_, rfl, ⟨_, rfl⟩, hm6.out.cellOf hc2 hne.out, Or.inr ⟨n, a, _, rfl, rfl, HB.out, HM6.out⟩⟩
        · rintro y0 r0 - HX2 xv w6 hv HR6 hm6 HM6
          exact ⟨_, rfl, (by obtain ⟨gv, hg⟩ := ExAt.ptr hv; exact ⟨_, hg⟩), hm6.out.cellOf hc2 hne.out, Or.inl ⟨f, y0, r0, Nat.le_refl _, HX2.out, hv, HR6.out, HM6.out⟩⟩
      rintro e w6 ⟨xv, rfl, ⟨pv, rfl⟩, hst⟩
      have HST := Lib.hid hst
      clear hst HX HM5 HR5 hc2 HB5
      go_wp2_with fail
      go_loopw [6] (fun xv wr => (∃ p, xv = .pointer p) ∧ Items S b w1.heap.size f deep ta1 W x xv wr) (fun _ wr => lenB wr b)
      case atStart => exact ⟨⟨_, rfl⟩, HST.out⟩
      case round =>
        clear HST
        obtain ⟨⟨pv, rfl⟩, hc2, hst⟩ := hrel
        obtain ⟨ff, y, r, hff, hb, hv1, hR1, hmm⟩ | ⟨n, p, _, rfl, -, hB, hmm⟩ := hst
        rotate_left
        · have HB := Lib.hid hB
          have HM1 := Lib.hid hmm
          clear hB hmm
          go_wp2_with fail
          go_at_call 46
          refine takeb_of (s := [91]) HM1 HB ?_
          rintro w7 HB7 - HM7
          go_wp2
          go_ret
          exact ⟨_, rfl, ⟨_, rfl⟩, HB7.out, HM7.out⟩
        have HV1 := Lib.hid hv1
        have HR1 := Lib.hid hR1
        have HM1 := Lib.hid hmm
        clear hv1 hR1 hmm
        cases ff with
        | zero => simp [itemF] at hb
        | succ f1 =>
          simp only [itemF] at hb
          have HB := Lib.hid hb
          clear hb
          go_wp2_with fail
          go_at_call 46
          refine take_of (s := [91]) HM1 HR1 HB ?_ ?_
          · clear HB
            rintro hs HX w7 HR7 hm7 HM7
            have hc7 := hm7.out.cellOf hc2 hne.out
            have HV7 := Lib.hid (ExAt.by HV1.out HR1.out hm7.out)
            have HRd := Lib.hid (HR7.out.quiet (Mods.refl None w7).drew)
            have HMd := Lib.hid HM7.out.drew
            have hw1 : IntKind.i64.wrap ((deep : Int) + 1) = (deep : Int) + 1 := IntWalk.i64_in _ (by omega)
            clear hc2
            go_wp2_with fail
            rcases bind_cases HX with ⟨n, a, hy, rfl⟩ | ⟨v, r2, hy, HX2⟩
            · have HC := Lib.hid (hE f1 (by omega) b S 0 (deep + 1) r.tail _ _ (by omega) (by have := HD.out; have := HD2.out; omega) HRd.out hy)
              rw [← hds.out] at HC
              clear hy HX
              go_region_held3 (fun w' => w'.cell? ⟨w1.heap.size, 2, none⟩ = some (.int .i64 ta1))
                (first | exact hc7 | assumption | exact hm8.cellOf ‹_› hne.out | exact al_cell ‹_›)
                ((first | (go_at_call 111; refine HC.out.mono ?_; rintro e w8 ⟨xv, rfl, ⟨p4, rfl⟩, hb8, hm8⟩)))
              all_goals
                have HB8 := Lib.hid hb8
                have HM8 := Lib.hid (HMd.out.trans hm8)
                have hc8 := al_cell (o := .cells #[.int .i64 8, .int .i64 ta1, .int .i64 0, .string ⟨#[]⟩, .string ⟨#[]⟩, .pointer pv, .pointer p4, .slice none 0 0] 195) (hm8.cellOf hc7 hne.out)
                have HBA := Lib.hid (HB8.out.quiet (W' := w8.alloc (.cells #[.int .i64 8, .int .i64 ta1, .int .i64 0, .string ⟨#[]⟩, .string ⟨#[]⟩, .pointer pv, .pointer p4, .slice none 0 0] 195)) ((Mods.refl _ _).alloc _))
                have HMA := Lib.hid (HM8.out.alloc (.cells #[.int .i64 8, .int .i64 ta1, .int .i64 0, .string ⟨#[]⟩, .string ⟨#[]⟩, .pointer pv, .pointer p4, .slice none 0 0] 195))
                clear hb8 hm8 hc7
                go_wp2_with fail
                go_at_call 44
                refine mustb_of (s := [93]) HMA HBA ?_
                rintro w9 HB9 hm9 HM9
                go_wp2_with fail
                refine ⟨⟨⟨_, rfl⟩, hm9.out.cellOf hc8 (fun f => f), Or.inr ⟨n, a, _, rfl, rfl, HB9.out, HM9.out⟩⟩, ?_⟩
                rw [Bad.lenB HB9.out.bad, Par.lenB HR1.out.par]
                omega
            · have HC := Lib.hid (hE f1 (by omega) b S 0 (deep + 1) r.tail _ _ (by omega) (by have := HD.out; have := HD2.out; omega) HRd.out hy)
              rw [← hds.out] at HC
              have HY := Lib.hid hy
              clear hy HX
              go_region_held3 (fun w' => w'.cell? ⟨w1.heap.size, 2, none⟩ = some (.int .i64 ta1))
                (first | exact hc7 | assumption | exact hm8.cellOf ‹_› hne.out | exact al_cell ‹_›)
                ((first | (go_at_call 111; refine HC.out.mono ?_; rintro e w8 ⟨xv, rfl, hv8, hp8, hm8⟩; obtain ⟨g8, rfl⟩ := ExAt.ptr hv8)))
              all_goals
                obtain ⟨gu, hgu⟩ := ExAt.ptr HV1.out
                cases hgu
                have HR8 := Lib.hid (HRd.out.next hp8 hm8)
                have HV8 := Lib.hid (show ExAt w8 S v _ from hv8)
                have HM8 := Lib.hid (HMd.out.trans hm8)
                have HVL := Lib.hid (ExAt.by (HV7.out.mods ((Mods.refl None w7).drew.mono fun _ _ f => f.elim)) HRd.out hm8)
                have hc8 := al_cell (o := .cells #[.int .i64 8, .int .i64 ta1, .int .i64 0, .string ⟨#[]⟩, .string ⟨#[]⟩, .pointer (some ⟨gu, 0, none⟩), .pointer (some ⟨g8, 0, none⟩), .slice none 0 0] 195) (hm8.cellOf hc7 hne.out)
                have HRA := Lib.hid (HR8.out.quiet (W' := w8.alloc (.cells #[.int .i64 8, .int .i64 ta1, .int .i64 0, .string ⟨#[]⟩, .string ⟨#[]⟩, .pointer (some ⟨gu, 0, none⟩), .pointer (some ⟨g8, 0, none⟩), .slice none 0 0] 195)) ((Mods.refl _ _).alloc _))
                have HMA := Lib.hid (HM8.out.alloc (.cells #[.int .i64 8, .int .i64 ta1, .int .i64 0, .string ⟨#[]⟩, .string ⟨#[]⟩, .pointer (some ⟨gu, 0, none⟩), .pointer (some ⟨g8, 0, none⟩), .slice none 0 0] 195))
                clear hp8 hv8 hm8 hc7
                go_wp2_with fail
                go_at_call 44
                refine must_of (s := [93]) HMA HRA HX2 ?_ ?_
                · rintro n a rfl w9 HB9 hm9 HM9
                  go_wp2_with fail
                  refine ⟨⟨⟨_, rfl⟩, hm9.out.cellOf hc8 hne.out, Or.inr ⟨n, a, _, rfl, rfl, HB9.out, HM9.out⟩⟩, ?_⟩
                  rw [Bad.lenB HB9.out.bad, Par.lenB HR1.out.par]
                  omega
                clear HX2
                rintro r3 HP3 HX w9 HR9 hm9 HM9
                go_wp2_with fail
                refine ⟨⟨⟨_, rfl⟩, hm9.out.cellOf hc8 hne.out, Or.inl ⟨f1, _, r3, by omega, HX.out, ?_, HR9.out, HM9.out⟩⟩, ?_⟩
                · refine ExAt.by (e := .item ta1 y v) ?_ HRA.out hm9.out
                  simp only [ExAt]
                  exact ⟨_, _, Node.new HR8.out.base.old _, HVL.out.mods ((Mods.refl _ _).alloc _), HV8.out.mods ((Mods.refl _ _).alloc _)⟩
                · rw [Par.lenB HR9.out.par, Par.lenB HR1.out.par]
                  have h1 := (lens f1).expr HY.out
                  obtain ⟨t1, r1, rfl, _⟩ := see_cons hs.out HR1.out.par.ends
                  obtain ⟨_, rfl⟩ := HP3.out
                  simp only [List.tail_cons, List.length_cons, List.length_tail] at h1 ⊢
                  omega
          · clear HB
            rintro - HX w7 HR7 hm7 HM7
            obtain rfl := (Option.some.inj HX.out).symm
            go_wp2
            go_ret
            exact ⟨_, rfl, HV1.out.mods (hm7.out.mono fun _ _ f => f.elim), HR7.out.par, HM7.out⟩
end Go.Proofs.YtdgedlhefjmcpaaGreatDoor.TreeP.R

/- A step of which other places are read in its places' stead. Conditions: what is asked lies. -/
import Derived.Test.YtoajcbfejplfbaaDoorFoldRow
import Derived.Test.YtoajcbfejplfbaaDoorMidOpen
import Derived.Deep.RegionLaw
import Derived.Deep.RegionWith
namespace Go.Proofs.YtoajcbfejplfbaaDoor.MidP
open Go.RowKit Go.Proofs.YtoajcbfejplfbaaDoor.Wo Go.Maps Go.Proofs.YtoajcbfejplfbaaDoor.TreeP
set_option linter.unusedVariables false
set_option linter.unusedSimpArgs false
theorem slice_form {W : World} {B : Nat} {e : TypeId} {size n : Nat} {v : Value} {vs : List Value} (h : W.ownsRow B e size v n vs) : ∃ oa oc, v = .slice oa n oc := by
  rcases h.2 with ⟨hv, h0⟩ | ⟨g, cap, cur, hv, _⟩
  · exact ⟨_, _, by rw [hv, h0]⟩
  · exact ⟨_, _, hv⟩
theorem ints_of_row {W : World} {S : Nat → Prop} {B : Nat} {v : Value} {l : List Int} (h : W.ownsRow B 3 1 v l.length (l.map (.int .i64))) (hS : ∀ k, v.ownBlock = some k → ¬ S k) : IntsAt W S v l := by
  rcases h.2 with ⟨hv, h0⟩ | ⟨g, cap, cur, hv, h3, h4, h5, h6, h7, h8⟩
  · obtain rfl : l = [] := List.eq_nil_of_length_eq_zero h0
    exact ⟨none, 0, hv, Nat.zero_le _, Nat.zero_le _, fun _ => rfl, fun i s hs => by simp at hs⟩
  · refine ⟨_, cap, hv, h5, h6, (fun h => by cases h), fun i x hx => ⟨g, 0, rfl, hS g (by rw [hv]; rfl), ?_⟩⟩
    have := h.cells (g := g) (by rw [hv]; rfl) i (.int .i64 x) (by rw [List.getElem?_map, hx]; rfl)
    rw [add_plain] at this
    exact this
theorem mods_set (W : World) (g i : Nat) (v : Value) : Mods (· = g) W (W.setCell ⟨g, i, none⟩ v) := Mods.setCell (S := (· = g)) (p := ⟨g, i, none⟩) (Mods.refl _ _) (fun _ => rfl) _
set_option maxRecDepth 100000 in
set_option maxHeartbeats 4000000 in
theorem reads_any {W : World} {kb nb sb n : Nat} {K : Kn} (h : KAt W kb nb sb n K) (s : Stp) (v : Value) (S : Nat → Prop) (hv : StpV W S s v) (hok : StpOk s) (hlen : s.args.length ≤ 1000000) :
    Calls Tryd.prog 82 #[.pointer (some ⟨kb, 0, none⟩), v] W fun e w => ∃ v', e = .returned v' ∧ StpV w (fun k => k < W.heap.size) (K.reads s) v' ∧ Mods None W w := by
  obtain ⟨aa, ac, rfl, hargs⟩ := hv
  obtain ⟨W3, hW3⟩ : ∃ W3, W3 = (W.alloc (.cells (stpL s (.slice aa s.args.length ac)).toArray 44)).alloc (.cells #[.int .i64 0, .int .i64 0, .int .i64 0, .int .i64 0, .int .i64 0, .int .i64 0, .string ⟨#[]⟩, .int .i64 0, .string ⟨#[]⟩, .slice none 0 0] 44) := ⟨_, rfl⟩
  have hm3 : Mods None W W3 := by rw [hW3]; exact ((Mods.refl _ _).alloc _).alloc _
  have hb0 : Blk W3 W.heap.size (stpL s (.slice aa s.args.length ac)) 44 := by rw [hW3]; exact (Blk.new W _ _).alloc _
  have hb1 : Blk W3 (W.heap.size + 1) [.int .i64 0, .int .i64 0, .int .i64 0, .int .i64 0, .int .i64 0, .int .i64 0, .string ⟨#[]⟩, .int .i64 0, .string ⟨#[]⟩, .slice none 0 0] 44 := by
    rw [hW3]
    have := Blk.new (W.alloc (.cells (stpL s (.slice aa s.args.length ac)).toArray 44)) #[.int .i64 0, .int .i64 0, .int .i64 0, .int .i64 0, .int .i64 0, .int .i64 0, .string ⟨#[]⟩, .int .i64 0, .string ⟨#[]⟩, .slice none 0 0] 44
    simpa using this
  have hk3 := (h.mods hm3 (fun f => f) (fun f => f) (fun f => f)).mods (Mods.refl None W3).drew (fun f => f) (fun f => f) (fun f => f)
  have HOA := Lib.hid (of_any hk3 hok.nums.2.2.1)
  have HOB := Lib.hid (of_any hk3 hok.nums.2.2.2.1)
  have HOC := Lib.hid (of_any hk3 hok.nums.2.2.2.2.1)
  have d2 := hb0.cell (i := 2) rfl
  have d3 := hb0.cell (i := 3) rfl
  have d4 := hb0.cell (i := 4) rfl
  have z2 := hb0.free 2
  have z3 := hb0.free 3
  have z4 := hb0.free 4
  have HB0 := Lib.hid hb0
  have HB1 := Lib.hid hb1
  have HM3 := Lib.hid hm3
  have HK := Lib.hid h
  have HAR := Lib.hid hargs
  have HOKK := Lib.hid hok
  have HLL := Lib.hid hlen
  obtain ⟨an, han⟩ : ∃ an, an = s.args.length := ⟨_, rfl⟩
  have HAN := Lib.hid han
  rw [← han] at hW3 ⊢
  clear hm3 hb0 hb1 hk3 h hargs hok hlen han
  unfold stpL str at *
  go_enter Tryd.func82, Tryd.ntmps82
  go_upto_region 1 with (fail)
  rw [← hW3]
  clear hW3
  obtain ⟨w1, hw1⟩ : ∃ w1, w1 = (((W3.setCell ⟨W.heap.size, 2, none⟩ (.int .i64 (K.of s.a))).setCell ⟨W.heap.size, 3, none⟩ (.int .i64 (K.of s.b))).setCell ⟨W.heap.size, 4, none⟩ (.int .i64 (K.of s.c))).drew := ⟨_, rfl⟩
  have HW1 := Lib.hid hw1
  clear hw1
  go_cut [] (fun wx => w1 = wx)
  case first =>
    go_region_law (go_simp; go_at_call 90; (first | (with_reducible refine (HOA.out).mono ?_) | (with_reducible refine (HOB.out).mono ?_) | (with_reducible refine (HOC.out).mono ?_)); rintro e w ⟨rfl, rfl⟩)
    all_goals
      go_wp2_with fail
      go_meet
      case rel => exact HW1.out
  case rest =>
  subst hcut
  have hw1 := HW1.out
  clear HW1
  have hb01 : Blk w1 W.heap.size [.int .i64 s.code, .int .i64 s.dst, .int .i64 (K.of s.a), .int .i64 (K.of s.b), .int .i64 (K.of s.c), .int .i64 s.n, .string ⟨s.op.toArray⟩, .int .i64 s.label, .string ⟨s.name.toArray⟩, .slice aa an ac] 44 := by
    rw [hw1]
    have h := ((HB0.out.set 2 (.int .i64 (K.of s.a))).set 3 (.int .i64 (K.of s.b))).set 4 (.int .i64 (K.of s.c))
    rw [← HAN.out] at h
    exact h
  have hm31 : Mods (· = W.heap.size) W3 w1 := by
    rw [hw1]
    exact (((mods_set W3 _ _ _).trans (mods_set _ _ _ _)).trans (mods_set _ _ _ _)).drew
  have hb11 := HB1.out.mods hm31 (by omega)
  have hmW1 : Mods None W w1 := HM3.out.trans' hm31 (fun k hk hl => by omega)
  have HMW1 := Lib.hid hmW1
  have HB11 := Lib.hid hb11
  have HB01 := Lib.hid hb01
  have HCL := Lib.hid (clone_ints (HAR.out.mods (hmW1.mono fun _ _ f => f.elim) (fun _ _ k => k)) HLL.out)
  rw [← HAN.out] at HCL
  have e9 := hb01.cell (i := 9) rfl
  clear hw1 d2 d3 d4 z2 z3 z4 hb01 hb11 hm31 hmW1 HOA HOB HOC HB0 HB1
  go_wp2_with fail
  go_at_call 89
  refine HCL.out.mono ?_
  rintro e w2 ⟨v', rfl, hown, hm2⟩
  obtain ⟨ra, rc, rfl⟩ := slice_form hown
  have hb02 := HB01.out.mods hm2 (fun f => f)
  have e9 := hb02.cell (i := 9) rfl
  have z9 := hb02.free 9
  obtain ⟨w3, hw3⟩ : ∃ w3, w3 = w2.setCell ⟨W.heap.size, 9, none⟩ (.slice ra an rc) := ⟨_, rfl⟩
  have hm23 : Mods (· = W.heap.size) w2 w3 := by rw [hw3]; exact mods_set _ _ _ _
  have hb03 : Blk w3 W.heap.size [.int .i64 s.code, .int .i64 s.dst, .int .i64 (K.of s.a), .int .i64 (K.of s.b), .int .i64 (K.of s.c), .int .i64 s.n, .string ⟨s.op.toArray⟩, .int .i64 s.label, .string ⟨s.name.toArray⟩, .slice ra an rc] 44 := by
    rw [hw3]
    exact hb02.set 9 (.slice ra an rc)
  have hlt1 : W.heap.size + 1 < w1.heap.size := HB11.out.lt
  have HLT1 := Lib.hid hlt1
  have hro : ∀ k, (Value.slice ra an rc).ownBlock = some k → W.heap.size + 1 < k := fun k hk => by have := (hown.lt k hk).1; omega
  have HRO := Lib.hid hro
  have HOW := Lib.hid (hm23.ownsRow hown (fun k hk e => by have := hro k hk; omega))
  have HB03 := Lib.hid hb03
  have HB13 := Lib.hid ((HB11.out.mods hm2 (fun f => f)).mods hm23 (by omega))
  have HMW3 : Hid (Mods None W w3) := Lib.hid ((HMW1.out.trans hm2).trans' hm23 (fun k hk hl => by omega))
  have hb39 := hb03.cell (i := 9) rfl
  clear hb02 hown hm2 hm23 hb03 hlt1 hro HCL
  go_upto_region 3 with (fail)
  rw [← hw3]
  clear hw3 e9 z9
  go_wp2_with fail
  clear hb39
  go_loopw [29] (fun jv wr => ∃ j, j ≤ an ∧ jv = .int .i64 ((j : Nat) : Int) ∧ Hid (wr.ownsRow w1.heap.size 3 1 (.slice ra an rc) an (((s.args.take j).map K.of ++ s.args.drop j).map (.int .i64))) ∧ Hid (Mods (fun k => (Value.slice ra an rc).ownBlock = some k) w3 wr)) (fun jv _ => (an - intOf jv).toNat)
  case atStart => exact ⟨0, Nat.zero_le _, rfl, by simpa using HOW, Lib.hid (Mods.refl _ _)⟩
  case round =>
    clear HOW
    obtain ⟨j, hj, rfl, HOW, HMR⟩ := hrel
    have hrow := HRO.out
    have HB0 := Lib.hid (HB03.out.mods HMR.out (fun e => by have := hrow _ e; omega))
    have HMW : Hid (Mods None W wr) := Lib.hid (HMW3.out.trans' HMR.out (fun k hk hl => by have := hrow k hk; omega))
    have b9 := HB0.out.cell (i := 9) rfl
    by_cases hlt : j < an
    · have hjx : j < s.args.length := by rw [← HAN.out]; exact hlt
      obtain ⟨p, hp⟩ : ∃ p, s.args[j]? = some p := ⟨_, List.getElem?_eq_getElem hjx⟩
      obtain ⟨g, cap, hg⟩ : ∃ g cap, Value.slice ra an rc = .slice (some ⟨g, 0, none⟩) an cap := by
        rcases HOW.out.2 with ⟨hv, h0⟩ | ⟨g, cap, cur, hv, _⟩
        · omega
        · exact ⟨g, cap, hv⟩
      obtain ⟨rfl, -, rfl⟩ := Value.slice.inj hg
      have hcell := HOW.out.cells (g := g) rfl j (.int .i64 p) (by
        rw [List.getElem?_map, List.getElem?_append_right (by rw [List.length_map, List.length_take]; omega), List.length_map, List.length_take, Nat.min_eq_left (by omega), Nat.sub_self, List.getElem?_drop, Nat.add_zero, hp]
        rfl)
      rw [add_plain, Nat.zero_add] at hcell
      have hfz := HOW.out.frozenAt j
      have HOF := Lib.hid (of_any ((HK.out.mods HMW.out (fun f => f) (fun f => f) (fun f => f)).mods (Mods.refl None wr).drew (fun f => f) (fun f => f) (fun f => f)) (HOKK.out.args p (List.mem_of_getElem? hp)))
      have hpi : (j : Int) < (an : Int) := by omega
      have hcap : (an : Int) ≤ (rc : Int) := by
        rcases HOW.out.2 with ⟨hv, h0⟩ | ⟨g2, cap2, cur, hv, _, _, h5, _⟩
        · omega
        · obtain ⟨-, -, rfl⟩ := Value.slice.inj hv
          omega
      have hab : (an : Int) ≤ 1000000 := by have h1 := HLL.out; have h2 := HAN.out; omega
      have HHP := Lib.hid (And.intro hp (And.intro hjx hlt))
      have hst := HOW.out.stored j (.int .i64 (K.of p))
      have HST := Lib.hid hst
      clear hp hjx hlt hg hst
      go_wp2_with fail
      go_region_law (go_simp; go_at_call 90; refine HOF.out.mono ?_; rintro e w ⟨rfl, rfl⟩)
      all_goals go_wp2_with fail
      all_goals
        have hp := HHP.out.1
        have hlt := HHP.out.2.2
        refine ⟨⟨j + 1, by omega, by go_num, Lib.hid ?_, Lib.hid ?_⟩, by simp [intOf]; omega⟩
        · have h := HST.out.1.drew
          have hl : ((s.args.take j).map K.of).length = j := by rw [List.length_map, List.length_take]; have := HHP.out.2.1; omega
          have he : ((s.args.take j).map K.of ++ s.args.drop j).map (Value.int .i64) = (((s.args.take j).map K.of ++ s.args.drop j).map (Value.int .i64)) := rfl
          have hd : s.args.drop j = p :: s.args.drop (j + 1) := by
            obtain ⟨h1, h2⟩ := List.getElem?_eq_some_iff.1 hp
            rw [← h2]
            exact List.drop_eq_getElem_cons h1
          have ht : s.args.take (j + 1) = s.args.take j ++ [p] := by
            obtain ⟨h1, h2⟩ := List.getElem?_eq_some_iff.1 hp
            rw [List.take_succ_eq_append_getElem h1, h2]
          rw [hd, List.map_append, List.map_cons, List.set_append_right _ _ (by rw [List.length_map, hl]; exact Nat.le_refl _), List.length_map, hl, Nat.sub_self, List.set_cons_zero] at h
          rw [ht, List.map_append, List.map_append, List.map_append, List.map_cons, List.map_nil, List.map_cons, List.map_nil, List.append_assoc]
          exact h
        · exact (HMR.out.trans (Mods.setCell (S := fun k => (Value.slice (some ⟨g, 0, none⟩) an rc).ownBlock = some k) (p := ⟨g, j, none⟩) (Mods.refl _ wr) (fun _ => rfl) (.int .i64 (K.of p)))).drew
    · obtain rfl : j = an := by omega
      have hrow2 := HOW.out
      have htk : s.args.take j = s.args := by rw [HAN.out]; exact List.take_length
      have hdr : s.args.drop j = [] := by rw [HAN.out]; exact List.drop_length
      rw [htk, hdr, List.append_nil] at hrow2
      have HRW2 := Lib.hid hrow2
      have HB1 := Lib.hid (HB13.out.mods HMR.out (fun e => by have := hrow _ e; omega))
      have b0 := HB0.out.cell (i := 0) rfl
      have b1 := HB0.out.cell (i := 1) rfl
      have b2 := HB0.out.cell (i := 2) rfl
      have b3 := HB0.out.cell (i := 3) rfl
      have b4 := HB0.out.cell (i := 4) rfl
      have b5 := HB0.out.cell (i := 5) rfl
      have b6 := HB0.out.cell (i := 6) rfl
      have b7 := HB0.out.cell (i := 7) rfl
      have b8 := HB0.out.cell (i := 8) rfl
      have r0 := HB1.out.cell (i := 0) rfl
      have r1 := HB1.out.cell (i := 1) rfl
      have r2 := HB1.out.cell (i := 2) rfl
      have r3 := HB1.out.cell (i := 3) rfl
      have r4 := HB1.out.cell (i := 4) rfl
      have r5 := HB1.out.cell (i := 5) rfl
      have r6 := HB1.out.cell (i := 6) rfl
      have r7 := HB1.out.cell (i := 7) rfl
      have r8 := HB1.out.cell (i := 8) rfl
      have r9 := HB1.out.cell (i := 9) rfl
      have f0 := HB1.out.free 0
      have f1 := HB1.out.free 1
      have f2 := HB1.out.free 2
      have f3 := HB1.out.free 3
      have f4 := HB1.out.free 4
      have f5 := HB1.out.free 5
      have f6 := HB1.out.free 6
      have f7 := HB1.out.free 7
      have f8 := HB1.out.free 8
      have f9 := HB1.out.free 9
      have hpi : ¬ (j : Int) < (j : Int) := by omega
      clear htk hdr hrow2 hrow
      go_wp2_with fail
      clear b0 b1 b2 b3 b4 b5 b6 b7 b8 b9 r0 r1 r2 r3 r4 r5 r6 r7 r8 r9 f0 f1 f2 f3 f4 f5 f6 f7 f8 f9
      have hB := (((((((((HB1.out.set 0 (.int .i64 s.code)).set 1 (.int .i64 s.dst)).set 2 (.int .i64 (K.of s.a))).set 3 (.int .i64 (K.of s.b))).set 4 (.int .i64 (K.of s.c))).set 5 (.int .i64 s.n)).set 6 (.string ⟨s.op.toArray⟩)).set 7 (.int .i64 s.label)).set 8 (.string ⟨s.name.toArray⟩)).set 9 (.slice ra j rc)
      have hm := (((((((((mods_set wr (W.heap.size + 1) 0 (.int .i64 s.code)).trans (mods_set _ _ 1 (.int .i64 s.dst))).trans (mods_set _ _ 2 (.int .i64 (K.of s.a)))).trans (mods_set _ _ 3 (.int .i64 (K.of s.b)))).trans (mods_set _ _ 4 (.int .i64 (K.of s.c)))).trans (mods_set _ _ 5 (.int .i64 s.n))).trans (mods_set _ _ 6 (.string ⟨s.op.toArray⟩))).trans (mods_set _ _ 7 (.int .i64 s.label))).trans (mods_set _ _ 8 (.string ⟨s.name.toArray⟩))).trans (mods_set _ _ 9 (.slice ra j rc))
      have hro := HRO.out
      have hme : (s.args.map K.of).length = j := by rw [List.length_map, HAN.out]
      have hints : IntsAt wr (fun k => k < W.heap.size ∨ k = W.heap.size + 1) (.slice ra (K.reads s).args.length rc) (K.reads s).args := by
        refine ints_of_row (B := w1.heap.size) ?_ ?_
        · rw [show (K.reads s).args.length = j from hme]
          exact HRW2.out
        · intro k hk e
          have := hro k (by rw [show (K.reads s).args.length = j from hme] at hk; exact hk)
          omega
      have hw := HMW.out.trans' hm (fun k hk hl => by omega)
      refine bodyPost_ret (v := .agg #[.int .i64 s.code, .int .i64 s.dst, .int .i64 (K.of s.a), .int .i64 (K.of s.b), .int .i64 (K.of s.c), .int .i64 s.n, .string ⟨s.op.toArray⟩, .int .i64 s.label, .string ⟨s.name.toArray⟩, .slice ra j rc]) (results_cell_row (P := Tryd.prog) Tryd.results82 _ _ (W.heap.size + 1) 44 _ (0, 0) _ rfl hB Tryd.underlying44 rfl (by kernel_rfl)) rfl ?_
      refine ⟨_, rfl, ⟨ra, rc, ?_, hints.mods (hm.mono fun _ _ e => Or.inr e) (fun _ _ e => Or.inl e)⟩, hw⟩
      rw [show (K.reads s).args.length = j from hme]
      rfl
end Go.Proofs.YtoajcbfejplfbaaDoor.MidP

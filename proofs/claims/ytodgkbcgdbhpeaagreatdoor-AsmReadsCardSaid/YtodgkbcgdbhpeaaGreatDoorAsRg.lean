/- Instructions compared; words of instructions: sameInsts, asm.Words. Conditions: the tables lie; the instructions lie. -/
import Derived.Test.YtodgkbcgdbhpeaaGreatDoorAsmE
namespace Go.Proofs.YtodgkbcgdbhpeaaGreatDoor.AsmP
open Go.RowKit Go.Proofs.YtodgkbcgdbhpeaaGreatDoor.WordP Go.Proofs.YtodgkbcgdbhpeaaGreatDoor.Wo
set_option linter.unusedVariables false
set_option linter.unusedSimpArgs false
set_option maxRecDepth 100000 in
set_option maxHeartbeats 2000000 in
theorem same_one (l : List Ins) (hl : l.length ≤ 1000000) (v u : Value) (W : World) (hI : InsIn W None v l) (hJ : InsIn W None u l) : Calls Tryz.prog 15 #[v, u] W fun e w => e = .returned (.bool true) ∧ Mods None W w := by
  have HI := Lib.hid hI
  have HJ := Lib.hid hJ
  obtain ⟨oa, oc, rfl, -, -⟩ := hI
  obtain ⟨ob, od, rfl, -, -⟩ := hJ
  obtain ⟨n, hn⟩ : ∃ n, n = l.length := ⟨_, rfl⟩
  have HN := Lib.hid hn
  rw [← hn] at hl ⊢
  clear hn
  go_enter Tryz.func15, Tryz.ntmps15
  go_wp2_with fail
  go_loopw [5] (fun iv wr => ∃ i : Nat, i ≤ n ∧ iv = .int .i64 i ∧ Hid (Mods None W wr)) (fun iv _ => (n - intOf iv).toNat)
  case atStart => exact ⟨0, Nat.zero_le _, rfl, Lib.hid (Mods.refl _ _)⟩
  case round =>
    obtain ⟨i, hi, rfl, HO⟩ := hrel
    by_cases hlt : i < n
    · obtain ⟨x, hxi⟩ : ∃ x, l[i]? = some x := ⟨_, List.getElem?_eq_getElem (by rw [← HN.out]; exact hlt)⟩
      obtain ⟨oa', oc', he, -, hc⟩ := HI.out.mods HO.out (fun k h => h)
      obtain ⟨g, o, rfl, -, d0, d1, d2, d3, d4⟩ := hc i x hxi
      simp only [Value.slice.injEq] at he
      obtain ⟨rfl, -, rfl⟩ := he
      obtain ⟨ob', od', he, -, hc'⟩ := HJ.out.mods HO.out (fun k h => h)
      obtain ⟨g', o', rfl, -, b0, b1, b2, b3, b4⟩ := hc' i x hxi
      simp only [Value.slice.injEq] at he
      obtain ⟨rfl, -, rfl⟩ := he
      have hin : (i : Int) < n := by omega
      clear hc hc' hxi
      go_upto_region 6 with (fail)
      go_region
      all_goals
        go_wp2_with fail
        exact ⟨⟨i + 1, by omega, by go_num, Lib.hid HO.out.drew⟩, by simp [intOf]; omega⟩
    · obtain rfl : i = n := by omega
      have hpi : ¬ (i : Int) < (i : Int) := by omega
      go_wp2_with fail
      go_ret
      exact ⟨rfl, HO.out⟩
theorem u32_info : (Tryz.prog.info? 49).map (fun i => (i.zero, i.size, i.bytes)) = some (some (.int .u32 0), 1, 4) := by kernel_rfl
/-- The first instruction that may not be. -/
def badAt (l : List Ins) (i : Nat) : Prop := (∀ x ∈ l.take i, x.right = true) ∧ ∃ x, l[i]? = some x ∧ x.right = false
def wordsRow (l : List Ins) : List Value := l.map fun x => .int .u32 x.word
/-- What Words answers. -/
def WordsP (l : List Ins) (W : World) (e : Ending) (w : World) : Prop :=
  (((∀ x ∈ l, x.right = true) ∧ ∃ v B, e = .returned (.tuple #[v, .nilIface]) ∧ w.ownsRow B 49 1 v l.length (wordsRow l)) ∨
    ∃ i g, badAt l i ∧ e = .returned (.tuple #[.slice none 0 0, .iface 71 (.pointer (some ⟨g, 0, none⟩))]) ∧ Blk w g [.int .i64 1, .int .i64 (i : Int)] 72) ∧ Mods None W w
theorem wone (s : Int) : ∀ u ∈ [Value.int .u32 s], u.oneCell' = true := by
  intro u hu
  simp only [List.mem_singleton] at hu
  subst hu
  rfl
set_option maxRecDepth 100000 in
set_option maxHeartbeats 4000000 in
theorem words_any (l : List Ins) (hl : l.length ≤ 1000000) (v : Value) (W : World) (hB : Base W) (hI : InsIn W None v l) : Calls Tryz.prog 21 #[v] W (WordsP l W) := by
  have HI := Lib.hid hI
  have HB := Lib.hid hB
  obtain ⟨oa, oc, rfl, -, -⟩ := hI
  obtain ⟨n, hn⟩ : ∃ n, n = l.length := ⟨_, rfl⟩
  have HN := Lib.hid hn
  rw [← hn] at hl ⊢
  obtain ⟨i0, hi0, hz0, hz1, hz2⟩ := info_parts u32_info
  have HI0 := Lib.hid (⟨hi0, hz0, hz1, hz2⟩ : _ ∧ _ ∧ _ ∧ _)
  clear hi0 hz0 hz1 hz2
  obtain ⟨h, hh⟩ : ∃ h, h = W.heap.size := ⟨_, rfl⟩
  have HH := Lib.hid hh
  clear hn hB hh
  go_enter Tryz.func21, Tryz.ntmps21
  go_wp2_with fail
  go_loopw [4, 11] (fun sv iv wr => ∃ i : Nat, i ≤ n ∧ iv = .int .i64 i ∧ Hid ((∀ x ∈ l.take i, x.right = true) ∧ wr.ownsRow h 49 1 sv i (wordsRow (l.take i)) ∧ Mods None W wr)) (fun _ iv _ => (n - intOf iv).toNat)
  case atStart => exact ⟨0, Nat.zero_le _, rfl, Lib.hid ⟨fun x hx => by simp at hx, World.ownsRow_nil _ _ _ _, Mods.refl _ _⟩⟩
  case round =>
    obtain ⟨i, hi, rfl, HO⟩ := hrel
    obtain ⟨sa, sc, rfl⟩ := row_form HO.out.2.1
    by_cases hlt : i < n
    · obtain ⟨x, hxi⟩ : ∃ x, l[i]? = some x := ⟨_, List.getElem?_eq_getElem (by rw [← HN.out]; exact hlt)⟩
      obtain ⟨oa', oc', he, -, hc⟩ := HI.out.mods HO.out.2.2 (fun k h => h)
      obtain ⟨g, o, rfl, -, d0, d1, d2, d3, d4⟩ := hc i x hxi
      simp only [Value.slice.injEq] at he
      obtain ⟨rfl, -, rfl⟩ := he
      have hin : (i : Int) < n := by omega
      have HX := Lib.hid hxi
      have HL := Lib.hid hlt
      obtain ⟨w1, hw1⟩ : ∃ w1, w1 = wr.alloc (.cells (instCells x.op x.rd x.ra x.rb x.n) 30) := ⟨_, rfl⟩
      have HM1 : Hid (Mods None wr w1) := Lib.hid (by rw [hw1]; exact (Mods.refl _ _).alloc _)
      have HB1 : Hid (Blk w1 wr.heap.size (instCells x.op x.rd x.ra x.rb x.n).toList 30) := Lib.hid (by rw [hw1]; exact Blk.new wr _ _)
      have HF := Lib.hid (HB.out.next (HO.out.2.2.trans HM1.out) far_none).forms
      unfold instCells at hw1 HB1
      obtain ⟨bx, hbx⟩ : ∃ bx, bx = wr.heap.size := ⟨_, rfl⟩
      rw [← hbx] at HB1
      clear hc hxi
      go_upto_region 5 with (fail)
      rw [← hw1, ← hbx]
      have q0 := HB1.out.cell (i := 0) rfl
      have q1 := HB1.out.cell (i := 1) rfl
      have q2 := HB1.out.cell (i := 2) rfl
      have q3 := HB1.out.cell (i := 3) rfl
      have q4 := HB1.out.cell (i := 4) rfl
      clear hw1 hbx d0 d1 d2 d3 d4
      cases hr : x.right with
      | true =>
        have HE := Lib.hid (encode_yes x w1 HF.out hr)
        simp only [Ins.val] at HE
        have HRI := Lib.hid hr
        clear hr
        go_wp2_with fail
        refine HE.out.mono ?_
        rintro e w2 ⟨rfl, hg⟩
        have HM2 : Hid (Mods None wr w2) := Lib.hid (HM1.out.trans (Mods.of_grown hg))
        have HO4 := Lib.hid ((HM2.out.ownsRow HO.out.2.1 (fun k hk f => f)).alloc (.cells #[.int .u32 x.word] 49))
        have hbz : h ≤ w2.heap.size := by have := (HO.out.2.2.trans HM2.out).size; have := HH.out; omega
        clear hg q0 q1 q2 q3 q4 HE
        go_wp2_with (at_builtin; refine wpList_append_own_at _ rfl _ _ 45 rfl h 49 i0 _ 1 4 Tryz.underlying45 HI0.out.1 HI0.out.2.1 HI0.out.2.2.1 HI0.out.2.2.2 rfl (by decide) (.slice sa i sc) i (wordsRow (l.take i)) rfl HO4.out ⟨w2.heap.size, 0, none⟩ 1 1 [.int .u32 x.word] rfl rfl (cell_one_new _ _ _) (wone _) (by unfold maxLen; omega) (by omega) (by simp; omega) ?_; intro v' w8 hown hgrow hnil hloc; have HOW := Lib.hid hown; have HGR := Lib.hid hgrow; clear hown hgrow hnil hloc; refine Hid.out ?_)
        refine Lib.hid ?_
        obtain ⟨qa, qc, rfl⟩ := row_form HOW.out
        go_wp2_with fail
        have hmg := Mods.of_grownBy (S := fun k => (Value.slice sa i sc).ownBlock = some k) HGR.out (fun k hk _ => hk)
        have htk : l.take (i + 1) = l.take i ++ [x] := by rw [List.take_add_one, HX.out]; rfl
        go_roundw
        case rel =>
          refine ⟨i + 1, by have := HL.out; omega, by go_num, Lib.hid ⟨fun y hy => ?_, ?_, ?_⟩⟩
          · rw [htk] at hy
            rcases List.mem_append.1 hy with hy | hy
            · exact HO.out.1 y hy
            · rw [List.mem_singleton] at hy; rw [hy]; exact HRI.out
          · rw [htk]
            have := HOW.out
            unfold wordsRow at this ⊢
            rw [List.map_append]
            exact this
          · exact (HO.out.2.2.trans (HM2.out.alloc _)).trans' hmg (fun k hk hw => by have := (HO.out.2.1.lt k hk).1; have := HH.out; omega)
        case measure => simp only [intOf]; have := HL.out; omega
      | false =>
        have HE := Lib.hid (encode_no x w1 HF.out hr)
        simp only [Ins.val] at HE
        have HRI := Lib.hid hr
        clear hr
        go_wp2_with fail
        refine HE.out.mono ?_
        rintro e w2 ⟨rfl, hg⟩
        have HM2 : Hid (Mods None wr w2) := Lib.hid (HM1.out.trans (Mods.of_grown hg))
        clear hg q0 q1 q2 q3 q4 HE
        go_wp2_with fail
        go_ret2
        exact ⟨.inr ⟨i, w2.heap.size, ⟨HO.out.1, x, HX.out, HRI.out⟩, rfl, Blk.new w2 _ _⟩, (HO.out.2.2.trans HM2.out).alloc _⟩
    · obtain rfl : i = n := by omega
      have hpi : ¬ (i : Int) < (i : Int) := by omega
      have hfull : l.take i = l := List.take_of_length_le (by rw [← HN.out]; exact Nat.le_refl _)
      have HFU := Lib.hid hfull
      clear hfull hlt
      go_wp2_with fail
      go_ret2
      have h1 := HO.out
      rw [HFU.out] at h1
      refine ⟨.inl ⟨h1.1, _, h, rfl, ?_⟩, h1.2.2⟩
      rw [← HN.out]
      exact h1.2.1
end Go.Proofs.YtodgkbcgdbhpeaaGreatDoor.AsmP

/- AsmBack, walked. Conditions: the tables lie; the instructions lie. -/
import Derived.Test.YtodgkbcgdbhpeaaGreatDoorAsmF
namespace Go.Proofs.YtodgkbcgdbhpeaaGreatDoor.AsmP
open Go.RowKit Go.Proofs.YtodgkbcgdbhpeaaGreatDoor.WordP Go.Proofs.YtodgkbcgdbhpeaaGreatDoor.Wo
set_option linter.unusedVariables false
set_option linter.unusedSimpArgs false
theorem replaceK_wide : (l : List Ins) → (∀ x ∈ l, x.right = true) → (k : Nat) → (textB l).count 10 ≤ k → Lib.replaceK [10] [32, 32, 10, 10] k (textB l) = wideB l
  | [], _, k, _ => by
    cases k with
    | zero => rfl
    | succ k =>
      show Lib.replaceK [10] [32, 32, 10, 10] (k + 1) [] = []
      rw [Lib.replaceK, if_pos (by rfl)]
  | x :: l, h, k, hk => by
    have hc := (print_clean (h x List.mem_cons_self)).1
    rw [textB_cons, List.count_append, List.count_cons_self, List.count_eq_zero_of_not_mem hc] at hk
    cases k with
    | zero => omega
    | succ k =>
      rw [textB_cons, Lib.replaceK_hit _ _ _ _ _ (index_app _ _ hc), List.take_left' rfl, List.length_singleton]
      have hd : (printB x ++ 10 :: textB l).drop ((printB x).length + 1) = textB l := by rw [List.drop_append]; simp
      rw [hd, replaceK_wide l (fun y hy => h y (List.mem_cons_of_mem _ hy)) k (by omega)]
      simp [wideB]
theorem replace_wide (l : List Ins) (h : ∀ x ∈ l, x.right = true) : Lib.replaceAll (textB l) [10] [32, 32, 10, 10] = wideB l := by
  unfold Lib.replaceAll Lib.replace
  rw [if_neg (by decide)]
  refine replaceK_wide l h _ ?_
  unfold Lib.replaceNum
  rw [if_pos (.inl (by decide)), count_one 10 (textB l).length (textB l) (Nat.le_refl _)]
  exact Nat.le_refl _
theorem wide_len (l : List Ins) (h : ∀ x ∈ l, I64s x) : (wideB l).length ≤ l.length * 214 := by
  induction l with
  | nil => simp [wideB]
  | cons x r ih =>
    rw [wideB_cons]
    have := ih (fun y hy => h y (List.mem_cons_of_mem _ hy))
    have := print_len (h x List.mem_cons_self)
    simp
    omega
theorem replace_any (l : List Ins) (hl : l.length ≤ 30) (hx : ∀ x ∈ l, I64s x) (hr : ∀ x ∈ l, x.right = true) (W : World) (hB : Base W) : Calls Tryz.prog 12 #[str (textB l), .string ⟨#[10]⟩, .string ⟨#[32, 32, 10, 10]⟩] W fun e w => e = .returned (str (wideB l)) ∧ Mods None W w := by
  obtain ⟨m, hm⟩ := hB.max
  have htl := text_len l hx
  have hc : Lib.countB ⟨(textB l).toArray⟩ ⟨#[10]⟩ ≤ (textB l).length := by
    have := count_one 10 (textB l).length (textB l) (Nat.le_refl _)
    have h2 := List.count_le_length (a := (10 : UInt8)) (l := textB l)
    show Lib.count (textB l) [10] ≤ _
    omega
  have h := Tryz.strings_ReplaceAll ⟨(textB l).toArray⟩ ⟨#[10]⟩ ⟨#[32, 32, 10, 10]⟩ m W (by rw [size_str]; omega) hm (Nat.le_refl 1) (by rw [size_str, show (⟨#[32, 32, 10, 10]⟩ : ByteArray).size = 4 from rfl]; omega)
  simp only [List.toList_toArray] at h
  rw [replace_wide l hr] at h
  exact h.mono fun e w h => ⟨h.1, Mods.of_below h.2⟩
theorem wpList_append_run {P : Program} {ops : Array Oper} {rest : List Oper} {o : Oper} {a : Act} {w w' : World} {v' : Value} {Q : Exit → Act → World → Prop} (s x : Operand) (t : TypeId)
    (ho : o.op = .call { callee := .builtin .append, args := #[s, x], argTypes := #[t, t] }) (hw : Region.wanted o (yielded ops a.tmps) = true)
    (hr : (Builtin.append_ #[t, t] o.type #[a.eval s, a.eval x]).run P w = .ok v' w') (h : wpList P ops Q rest (a.put o.dst v') w') : wpList P ops Q (o :: rest) a w := by
  unfold wpList
  rw [if_pos hw]
  left
  unfold Oper.wp execOp
  simp only [ho, resolve, invoke, builtin, Sem.run_bind, Sem.run_pure, Result.andThen_ok, List.map_toArray, List.map_cons, List.map_nil, hr]
  exact h
theorem insRow_len (l : List Ins) : (insRow l).length = l.length * 5 := by
  unfold insRow
  induction l with
  | nil => rfl
  | cons x r ih =>
    rw [List.flatMap_cons, List.length_append, ih, show (instCells x.op x.rd x.ra x.rb x.n).toList.length = 5 from rfl, List.length_cons]
    omega
theorem append_ins (l acc : List Ins) (base : Nat) (w : World) (v iv : Value) (ty : TypeId) (hown : w.ownsRow base 30 5 v acc.length (insRow acc)) (hi : InsIn w None iv l) (hs : acc.length + l.length ≤ 1000) (hbase : base ≤ w.heap.size) :
    ∃ v' w', (Builtin.append_ #[22, 22] ty #[v, iv]).run Tryz.prog w = .ok v' w' ∧ w'.ownsRow base 30 5 v' (acc.length + l.length) (insRow (acc ++ l)) ∧ Mods (fun k => v.ownBlock = some k) w w' := by
  obtain ⟨i0, hi0, hz0, hz1, hz2⟩ := info_parts ins_info
  obtain ⟨ia, c, rfl, h0, hcell⟩ := hi
  have happ : insRow (acc ++ l) = insRow acc ++ insRow l := by unfold insRow; simp
  cases ia with
  | none =>
    obtain rfl : c = 0 := h0 rfl
    obtain rfl : l = [] := by
      cases l with
      | nil => rfl
      | cons x r =>
        obtain ⟨g, o, e, -⟩ := hcell 0 x rfl
        cases e
    refine ⟨v, w, run_append_owned_none (P := Tryz.prog) (w := w) base 22 ty 30 i0 5 Tryz.underlying22 hi0 v acc.length (insRow acc) hown, ?_, Mods.refl _ _⟩
    simpa using hown
  | some ad =>
    obtain ⟨v', w', h1, h2, h3, -, -⟩ := run_append_own_at (P := Tryz.prog) (w := w) base 22 ty 30 i0 _ 5 40 Tryz.underlying22 hi0 hz0 hz1 hz2 rfl (by decide) v acc.length (insRow acc) hown ad l.length c (insRow l) (insRow_len l) (fun j u hu => by
        have hj : j < l.length * 5 := by rw [← insRow_len]; exact (List.getElem?_eq_some_iff.1 hu).1
        have hi : j / 5 < l.length := by omega
        obtain ⟨x, hx⟩ : ∃ x, l[j / 5]? = some x := ⟨_, List.getElem?_eq_getElem hi⟩
        obtain ⟨g, o, e, -, c0, c1, c2, c3, c4⟩ := hcell _ x hx
        obtain rfl := Option.some.inj e
        have ej : j = j / 5 * 5 + j % 5 := by omega
        have hk : j % 5 < 5 := by omega
        rw [ej, insRow_at hx hk] at hu
        have ea : (⟨g, o, none⟩ : Addr).add j = ⟨g, o + j / 5 * 5 + j % 5, none⟩ := by
          have : o + j = o + j / 5 * 5 + j % 5 := by omega
          unfold Addr.add
          split
          · rename_i hz
            subst hz
            rfl
          · simp [this]
        rw [ea]
        obtain ⟨k, hkk⟩ : ∃ k, k = j % 5 := ⟨_, rfl⟩
        rw [← hkk] at hu hk ⊢
        rcases (show k = 0 ∨ k = 1 ∨ k = 2 ∨ k = 3 ∨ k = 4 by omega) with rfl | rfl | rfl | rfl | rfl <;> (cases hu; assumption)) (fun u hu => by
        unfold insRow at hu
        obtain ⟨x, -, hx⟩ := List.mem_flatMap.1 hu
        exact inst_one x u hx) (by unfold maxLen; omega) (by omega) hbase
    exact ⟨v', w', h1, by rw [happ]; exact h2, Mods.of_grownBy h3 (fun k hk _ => hk)⟩
set_option maxRecDepth 100000 in
set_option maxHeartbeats 4000000 in
theorem back_any (l m : List Ins) (hx : ∀ x ∈ l, I64s x) (hy : ∀ x ∈ m, I64s x) (v u : Value) (W : World) (hB : Base W) (hI : InsIn W None v l) (hJ : InsIn W None u m) (hl0 : l.length ≤ 9223372036854775807) (hm0 : m.length ≤ 9223372036854775807) : Calls Tryz.prog 4 #[v, u] W fun e w => e = .returned (.bool true) ∧ Mods None W w := by
  have HI := Lib.hid hI
  have HJ := Lib.hid hJ
  have HX := Lib.hid (And.intro hx hy)
  have HB := Lib.hid hB
  obtain ⟨oa, oc, rfl, -, -⟩ := hI
  obtain ⟨ob, od, rfl, -, -⟩ := hJ
  obtain ⟨n, hn⟩ : ∃ n, n = l.length := ⟨_, rfl⟩
  obtain ⟨k, hk⟩ : ∃ k, k = m.length := ⟨_, rfl⟩
  have HN := Lib.hid (And.intro hn hk)
  rw [← hn] at hl0 ⊢
  rw [← hk] at hm0 ⊢
  clear hx hy hB hn hk
  by_cases hl : n ≤ 30
  rotate_left
  · have hg : (n : Int) > 30 := by omega
    go_enter Tryz.func4, Tryz.ntmps4
    go_wp2_with fail
    go_ret
    exact ⟨rfl, Mods.refl _ _⟩
  by_cases hm : k ≤ 30
  rotate_left
  · have hg : (k : Int) > 30 := by omega
    have hg2 : ¬ (n : Int) > 30 := by omega
    go_enter Tryz.func4, Tryz.ntmps4
    go_wp2_with fail
    go_ret
    exact ⟨rfl, Mods.refl _ _⟩
  have hg1 : ¬ (k : Int) > 30 := by omega
  have hg2 : ¬ (n : Int) > 30 := by omega
  go_enter Tryz.func4, Tryz.ntmps4
  go_wp2_with fail
  refine (written_any W HB.out).mono ?_
  rintro e w1 ⟨rfl, hm1⟩
  have HM1 := Lib.hid hm1
  clear hm1
  go_wp2_with fail
  have HT := text_any l (by have := HN.out; omega) HX.out.1 _ w1 (HB.out.next HM1.out far_none) (HI.out.mods HM1.out (fun k h => h))
  rw [← HN.out.1] at HT
  refine HT.mono ?_
  rintro e w2 ⟨rfl, hm2⟩
  have HM2 := Lib.hid (HM1.out.trans hm2)
  clear HT hm2 HM1
  by_cases ha : l.all (·.right) = true
  rotate_left
  · rw [if_neg ha]
    unfold str
    go_wp2_with fail
    have HT := text_any m (by have := HN.out; omega) HX.out.2 _ w2 (HB.out.next HM2.out far_none) (HJ.out.mods HM2.out (fun k h => h))
    rw [← HN.out.2] at HT
    refine HT.mono ?_
    rintro e w3 ⟨rfl, hm3⟩
    have HM3 := Lib.hid (HM2.out.trans hm3)
    clear HT hm3 HM2
    by_cases hb : m.all (·.right) = true
    · rw [if_pos hb]
      go_wp2_with fail
      go_ret
      exact ⟨rfl, HM3.out⟩
    · rw [if_neg hb]
      go_wp2_with fail
      go_ret
      exact ⟨rfl, HM3.out⟩
  · rw [if_pos ha]
    have hla := text_len l HX.out.1
    have hwa := wide_len l HX.out.1
    have HAR : Hid (∀ x ∈ l, x.right = true) := Lib.hid (fun x hx => by rw [List.all_eq_true] at ha; exact ha x hx)
    obtain ⟨T1, hT1⟩ : ∃ T1, T1 = textB l := ⟨_, rfl⟩
    rw [← hT1] at hla ⊢
    have HT1 := Lib.hid hT1
    clear hT1 ha
    go_wp2_with fail
    have HT := text_any m (by have := HN.out; omega) HX.out.2 _ w2 (HB.out.next HM2.out far_none) (HJ.out.mods HM2.out (fun k h => h))
    rw [← HN.out.2] at HT
    refine HT.mono ?_
    rintro e w3 ⟨rfl, hm3⟩
    have HM3 := Lib.hid (HM2.out.trans hm3)
    clear HT hm3 HM2
    by_cases hb : m.all (·.right) = true
    rotate_left
    · rw [if_neg hb]
      unfold str
      go_wp2_with fail
      go_ret
      exact ⟨rfl, HM3.out⟩
    · rw [if_pos hb]
      have hlb := text_len m HX.out.2
      have HBR : Hid (∀ x ∈ m, x.right = true) := Lib.hid (fun x hx => by rw [List.all_eq_true] at hb; exact hb x hx)
      obtain ⟨T2, hT2⟩ : ∃ T2, T2 = textB m := ⟨_, rfl⟩
      rw [← hT2] at hlb ⊢
      have HT2 := Lib.hid hT2
      clear hT2 hb
      have HLEN : Hid (T1.length ≤ 100000 ∧ T2.length ≤ 100000 ∧ (wideB l).length ≤ 100000) := Lib.hid (by have := HN.out; omega)
      clear hla hlb hwa
      go_wp2_with fail
      refine (assemble_any T1 (by have := HLEN.out; omega) w3 (HB.out.next HM3.out far_none)).mono ?_
      rintro e w4 hP
      unfold AsmA at hP
      rw [HT1.out, asm_text l HAR.out] at hP
      obtain ⟨⟨vo, rfl, hrow⟩, hm4⟩ := hP
      have HM4 := Lib.hid (HM3.out.trans hm4)
      have HRO := Lib.hid hrow.at_
      obtain ⟨pa, pc, rfl, -, -⟩ := hrow.at_
      clear hm4 hrow HM3
      go_wp2_with fail
      refine (equal_any l l (by have := HN.out; omega) (by have := HN.out; omega) _ _ w4 HRO.out (by rw [HN.out.1]; exact HI.out.mods HM4.out (fun k h => h))).mono ?_
      rintro e w5 ⟨rfl, hm5⟩
      rw [decide_eq_true (rfl : l = l)]
      have HM5 := Lib.hid (HM4.out.trans hm5)
      clear hm5 HM4 HRO
      go_wp2_with fail
      have HRP := replace_any l (by have := HN.out; omega) HX.out.1 HAR.out w5 (HB.out.next HM5.out far_none)
      rw [← HT1.out] at HRP
      refine HRP.mono ?_
      rintro e w6 ⟨rfl, hm6⟩
      have HM6 := Lib.hid (HM5.out.trans hm6)
      clear HRP hm6 HM5
      obtain ⟨Wd, hWd⟩ : ∃ Wd, Wd = wideB l := ⟨_, rfl⟩
      rw [← hWd] at HLEN ⊢
      have HWd := Lib.hid hWd
      clear hWd
      have hlen := HLEN.out
      have hs0 : ¬ 9223372036854775807 < 2 + Wd.length := by omega
      have hs1 : ¬ 9223372036854775807 < 2 + Wd.length + T2.length := by omega
      unfold str
      go_wp2_with fail
      have hst : Value.string (⟨#[32, 32]⟩ ++ ⟨Wd.toArray⟩ ++ ⟨T2.toArray⟩) = str ([32, 32] ++ Wd ++ T2) := by
        show Value.string (⟨([32, 32] : List UInt8).toArray⟩ ++ ⟨Wd.toArray⟩ ++ ⟨T2.toArray⟩) = _
        rw [ba_append, ba_append]
        rfl
      try rw [hst]
      refine (assemble_any ([32, 32] ++ Wd ++ T2) (by simp; omega) w6 (HB.out.next HM6.out far_none)).mono ?_
      rintro e w7 hP
      unfold AsmA at hP
      rw [HWd.out, HT2.out, asm_wide l m HAR.out HBR.out] at hP
      obtain ⟨⟨vo, rfl, hrow⟩, hm7⟩ := hP
      have HM7 := Lib.hid (HM6.out.trans hm7)
      have HRO := Lib.hid hrow.at_
      obtain ⟨qa, qc, rfl, -, -⟩ := hrow.at_
      clear hm7 hrow HM6 hst
      have ho8 : (w7.alloc (.cells #[] 30)).ownsRow w7.heap.size 30 5 (.slice (some ⟨w7.heap.size, 0, none⟩) 0 0) ([] : List Ins).length (insRow []) := ⟨rfl, .inr ⟨w7.heap.size, 0, #[], rfl, Nat.le_refl _, World.alloc_heap_new w7 _, Nat.le_refl _, Nat.zero_le _, rfl, rfl⟩⟩
      have hm8 : Mods None w7 (w7.alloc (.cells #[] 30)) := (Mods.refl _ _).alloc _
      obtain ⟨va, w8, hr8, hown8, hmm8⟩ := append_ins l [] w7.heap.size _ _ (.slice oa n oc) 22 ho8 (by rw [HN.out.1]; exact HI.out.mods (HM7.out.trans hm8) (fun k h => h)) (by have := HN.out; simp; omega) (by simp)
      have hmw8 : Mods None w7 w8 := hm8.trans' hmm8 (fun k hk hw => by have := (ho8.lt k hk).1; omega)
      have hown8' : w8.ownsRow w7.heap.size 30 5 va l.length (insRow l) := by simpa using hown8
      obtain ⟨vb, w9, hr9, hown9, hmm9⟩ := append_ins m l w7.heap.size w8 va (.slice ob k od) 22 hown8' (by rw [HN.out.2]; exact HJ.out.mods (HM7.out.trans hmw8) (fun k h => h)) (by have := HN.out; omega) hmw8.size
      have hmw9 : Mods None w7 w9 := hmw8.trans' hmm9 (fun k hk hw => by have := (hown8'.lt k hk).1; omega)
      have HRB := Lib.hid (InsRow.at_ (W := w9) (v := vb) (l := l ++ m) ⟨w7.heap.size, by rw [List.length_append]; exact hown9⟩)
      have HRA := Lib.hid (HRO.out.mods hmw9 (fun k h => h))
      have HM9 := Lib.hid (HM7.out.trans hmw9)
      obtain ⟨ra, rc, rfl⟩ := row_form hown8'
      obtain ⟨rb, rd, rfl⟩ := row_form hown9
      rw [List.length_append] at HRA
      clear ho8 hm8 hown8 hmm8 hmw8 hown8' hown9 hmm9 hmw9 HRO HM7
      have H8 := Lib.hid hr8
      have H9 := Lib.hid hr9
      clear hr8 hr9
      go_wp2_with (first | (at_builtin; refine wpList_append_run _ _ _ rfl (by first | rfl | simp [Region.wanted, yielded]) H8.out ?_) | (at_builtin; refine wpList_append_run _ _ _ rfl (by first | rfl | simp [Region.wanted, yielded]) H9.out ?_))
      refine (equal_any (l ++ m) (l ++ m) (by have := HN.out; simp; omega) (by have := HN.out; simp; omega) _ _ w9 HRA.out HRB.out).mono ?_
      rintro e wz ⟨rfl, hmz⟩
      rw [decide_eq_true (rfl : l ++ m = l ++ m)]
      have HMZ := Lib.hid (HM9.out.trans hmz)
      clear hmz
      go_wp2_with fail
      go_ret
      exact ⟨rfl, HMZ.out⟩
end Go.Proofs.YtodgkbcgdbhpeaaGreatDoor.AsmP

/- AsmPlaces, walked. Conditions: the tables lie; the instructions lie. -/
import Derived.Test.YtodgkbcgdbhpeaaGreatDoorAsmG
namespace Go.Proofs.YtodgkbcgdbhpeaaGreatDoor.AsmP
open Go.RowKit Go.Proofs.YtodgkbcgdbhpeaaGreatDoor.WordP Go.Proofs.YtodgkbcgdbhpeaaGreatDoor.Wo
set_option linter.unusedVariables false
set_option linter.unusedSimpArgs false
/-- The number that is picked. -/
def pkn (a n : Int) : Int := a % 18446744073709551616 % n
theorem pkn_in (a n : Int) (h : 1 ≤ n) : 0 ≤ pkn a n ∧ pkn a n < n := by
  unfold pkn
  exact ⟨Int.emod_nonneg _ (by omega), Int.emod_lt_of_pos _ (by omega)⟩
theorem pick_any (a n : Int) (W : World) (h1 : 1 ≤ n) (h2 : n ≤ 4611686018427387904) :
    Calls Tryz.prog 7 #[.int .i64 a, .int .i64 n] W fun e W' => e = .returned (.int .i64 (pkn a n)) ∧ W = W' := by
  have hn : IntKind.u64.wrap n = n := by rw [IntKind.wrap_u64]; omega
  have hp := pkn_in a n h1
  have h0 : (n == 0) = false := by simp; omega
  have hr : wrap64 ((IntKind.u64.wrap a).tmod n) = pkn a n := by
    rw [IntKind.wrap_u64, Int.tmod_eq_emod_of_nonneg (by omega)]
    show wrap64 (pkn a n) = pkn a n
    unfold wrap64; omega
  have HR := Lib.hid hr
  clear hr hp
  go_enter Tryz.func7, Tryz.ntmps7
  go_wp2
  go_ret
  refine ⟨?_, rfl⟩
  rw [← HR.out]
  rfl
theorem step_append_run {P : Program} {ops : Array Oper} {o : Oper} {a : Act} {w : World} {K : Act → World → Prop} {Q : Exit → Act → World → Prop} {E : Prop} (hgd : o.guard = none) (s x : Operand) (t : TypeId)
    (ho : o.op = .call { callee := .builtin .append, args := #[s, x], argTypes := #[t, t] }) {v' : Value} {w' : World}
    (hr : (Builtin.append_ #[t, t] o.type #[a.eval s, a.eval x]).run P w = .ok v' w') (h : K (a.put o.dst v') w') :
    if Region.wanted o (yielded ops a.tmps) = true then Oper.wp P o a w K Q else E := by
  have hw : Region.wanted o (yielded ops a.tmps) = true := by simp [Region.wanted, hgd]
  rw [if_pos hw]
  unfold Oper.wp execOp
  simp only [ho, resolve, invoke, builtin, Sem.run_bind, Sem.run_pure, Result.andThen_ok, List.map_toArray, List.map_cons, List.map_nil, hr]
  exact h
/-- What AsmPlaces' text has ahead of i. -/
def preT (l : List Ins) (at_ tgt : Nat) : Nat → List UInt8
  | 0 => []
  | i + 1 => preT l at_ tgt i ++ placeT l at_ tgt i
theorem pre_rest (l : List Ins) (at_ tgt : Nat) : (n i : Nat) → preT l at_ tgt i ++ restT l at_ tgt n i = preT l at_ tgt (i + n)
  | 0, i => by simp [restT]
  | n + 1, i => by
    rw [restT, ← List.append_assoc, show preT l at_ tgt i ++ placeT l at_ tgt i = preT l at_ tgt (i + 1) from rfl, pre_rest l at_ tgt n (i + 1), show i + 1 + n = i + (n + 1) by omega]
theorem rest_pre (l : List Ins) (at_ tgt n : Nat) : restT l at_ tgt n 0 = preT l at_ tgt n := by
  have := pre_rest l at_ tgt n 0
  simpa [preT] using this
/-- The instruction of row i. -/
def rowI (l : List Ins) (at_ i : Nat) : Ins := l.getD (if at_ < i then i - 1 else i) ⟨0, 0, 0, 0, 0⟩
theorem rowI_i64 {l : List Ins} (h : ∀ x ∈ l, I64s x) (at_ i : Nat) : I64s (rowI l at_ i) := by
  unfold rowI
  rw [List.getD_eq_getElem?_getD]
  cases hx : l[if at_ < i then i - 1 else i]? with
  | none => exact ⟨by decide, by decide, by decide, by decide, by decide⟩
  | some x => exact h x (List.mem_of_getElem? hx)
theorem place_len {l : List Ins} (h : ∀ x ∈ l, I64s x) (at_ tgt i : Nat) : (placeT l at_ tgt i).length ≤ 230 := by
  have h1 := print_len (rowI_i64 h at_ i)
  unfold rowI at h1
  have h2 : hereB.length = 4 := rfl
  have h3 : jalB.length = 11 := rfl
  unfold placeT
  split <;> split <;> (try split) <;> simp only [List.length_append, List.length_cons, List.length_nil, h2, h3] <;> omega
theorem pre_len {l : List Ins} (h : ∀ x ∈ l, I64s x) (at_ tgt : Nat) : (i : Nat) → (preT l at_ tgt i).length ≤ i * 230
  | 0 => by simp [preT]
  | i + 1 => by
    have h1 := pre_len h at_ tgt i
    have h2 := place_len h at_ tgt i
    rw [preT, List.length_append]
    omega
/-- The rows ahead of i may be. -/
def OkTo (l : List Ins) (at_ i : Nat) : Prop := ∀ j, j < i → j ≠ at_ → j ≤ l.length → (rowI l at_ j).right = true
theorem OkTo.next {l : List Ins} {at_ i : Nat} (h : OkTo l at_ i) (hx : i ≠ at_ → i ≤ l.length → (rowI l at_ i).right = true) : OkTo l at_ (i + 1) := fun j hj h1 h2 => by
  by_cases e : j = i
  · subst e; exact hx h1 h2
  · exact h j (by omega) h1 h2
theorem OkTo.all {l : List Ins} {at_ i : Nat} (h : OkTo l at_ i) (hi : l.length + 2 ≤ i) : ∀ x ∈ l, x.right = true := fun x hx => by
  obtain ⟨m, hm, rfl⟩ := List.getElem_of_mem hx
  by_cases hma : m < at_
  · have := h m (by omega) (by omega) (by omega)
    unfold rowI at this
    rw [if_neg (by omega), List.getD_eq_getElem?_getD, List.getElem?_eq_getElem hm] at this
    exact this
  · have := h (m + 1) (by omega) (by omega) (by omega)
    unfold rowI at this
    rw [if_pos (by omega), List.getD_eq_getElem?_getD, show m + 1 - 1 = m by omega, List.getElem?_eq_getElem hm] at this
    exact this
/-- What the text is assembled to. -/
def aimedL (l : List Ins) (at_ tgt : Nat) : List Ins := (List.range (l.length + 1)).map fun i => if i = at_ then ⟨30, 1, 0, 0, ((tgt : Int) - at_) * 4⟩ else l.getD (if at_ < i then i - 1 else i) ⟨0, 0, 0, 0, 0⟩
theorem aimed_len (l : List Ins) (at_ tgt : Nat) : (aimedL l at_ tgt).length = l.length + 1 := by simp [aimedL]
theorem aimed_at {l : List Ins} {at_ : Nat} (tgt : Nat) (h : at_ ≤ l.length) : (aimedL l at_ tgt)[at_]? = some ⟨30, 1, 0, 0, ((tgt : Int) - at_) * 4⟩ := by
  unfold aimedL
  rw [List.getElem?_map, List.getElem?_range (by omega)]
  simp
theorem aimed_rest {l : List Ins} {at_ : Nat} (tgt : Nat) (h : at_ ≤ l.length) : (aimedL l at_ tgt).take at_ ++ (aimedL l at_ tgt).drop (at_ + 1) = l := by
  refine List.ext_getElem? fun i => ?_
  have hlen := aimed_len l at_ tgt
  have key : ∀ j, j < l.length + 1 → j ≠ at_ → (aimedL l at_ tgt)[j]? = some (l.getD (if at_ < j then j - 1 else j) ⟨0, 0, 0, 0, 0⟩) := fun j hj hne => by
    unfold aimedL
    rw [List.getElem?_map, List.getElem?_range hj]
    simp [hne]
  have ht : ((aimedL l at_ tgt).take at_).length = at_ := by rw [List.length_take, hlen]; omega
  by_cases hi : i < at_
  · rw [List.getElem?_append_left (by omega), List.getElem?_take_of_lt hi, key i (by omega) (by omega), if_neg (by omega), List.getD_eq_getElem?_getD, List.getElem?_eq_getElem (show i < l.length by omega)]
    rfl
  · rw [List.getElem?_append_right (by omega), ht, List.getElem?_drop]
    by_cases hil : i < l.length
    · rw [show at_ + 1 + (i - at_) = i + 1 by omega, key (i + 1) (by omega) (by omega), if_pos (by omega), List.getD_eq_getElem?_getD, show i + 1 - 1 = i by omega, List.getElem?_eq_getElem hil]
      rfl
    · rw [List.getElem?_eq_none (by omega), List.getElem?_eq_none (by omega)]
theorem insIn_take {W : World} {S : Nat → Prop} {oa : Option Addr} {oc : Nat} {l : List Ins} (h : InsIn W S (.slice oa l.length oc) l) {k : Nat} (hk : k ≤ l.length) {c : Nat} (h0 : oa = none → c = 0) : InsIn W S (.slice oa k c) (l.take k) := by
  obtain ⟨oa', oc', he, -, hc⟩ := h
  simp only [Value.slice.injEq] at he
  obtain ⟨rfl, -, rfl⟩ := he
  refine ⟨oa, c, by rw [List.length_take, Nat.min_eq_left hk], h0, fun i x hx => hc i x ?_⟩
  rw [List.getElem?_take] at hx
  split at hx
  · exact hx
  · cases hx
theorem insIn_drop {W : World} {S : Nat → Prop} {g o oc : Nat} {l : List Ins} (h : InsIn W S (.slice (some ⟨g, o, none⟩) l.length oc) l) {k : Nat} {c : Nat} : InsIn W S (.slice (some ⟨g, o + k * 5, none⟩) (l.length - k) c) (l.drop k) := by
  obtain ⟨oa', oc', he, -, hc⟩ := h
  simp only [Value.slice.injEq] at he
  obtain ⟨rfl, -, rfl⟩ := he
  refine ⟨_, c, by rw [List.length_drop], (fun h => by cases h), fun i x hx => ?_⟩
  rw [List.getElem?_drop] at hx
  obtain ⟨g', o', he, hg, c0, c1, c2, c3, c4⟩ := hc _ x hx
  cases he
  have e : o + k * 5 + i * 5 = o + (k + i) * 5 := by omega
  exact ⟨_, _, rfl, hg, by rw [e]; exact c0, by rw [e]; exact c1, by rw [e]; exact c2, by rw [e]; exact c3, by rw [e]; exact c4⟩
theorem preT_jal {l : List Ins} {at_ tgt i : Nat} (h : i = at_) (T1 : List UInt8) (hT : T1 = preT l at_ tgt i ++ (if i = tgt then hereB ++ [58, 10] else [])) : T1 ++ (jalB ++ [10]) = preT l at_ tgt (i + 1) := by
  rw [preT, placeT, if_pos h, hT, List.append_assoc]
theorem preT_row {l : List Ins} {at_ tgt i : Nat} (h : i ≠ at_) (hi : i ≤ l.length) (T1 : List UInt8) (hT : T1 = preT l at_ tgt i ++ (if i = tgt then hereB ++ [58, 10] else [])) : T1 ++ (printB (rowI l at_ i) ++ [10]) = preT l at_ tgt (i + 1) := by
  rw [preT, placeT, if_neg h, if_pos hi, hT, List.append_assoc]
  rfl
theorem preT_none {l : List Ins} {at_ tgt i : Nat} (h : i ≠ at_) (hi : ¬ i ≤ l.length) (T1 : List UInt8) (hT : T1 = preT l at_ tgt i ++ (if i = tgt then hereB ++ [58, 10] else [])) : T1 = preT l at_ tgt (i + 1) := by
  rw [preT, placeT, if_neg h, if_neg hi, hT, List.append_nil]
set_option maxRecDepth 100000 in
set_option maxHeartbeats 4000000 in
theorem places_any (l : List Ins) (hx : ∀ x ∈ l, I64s x) (ia ib : Int) (v : Value) (W : World) (hB : Base W) (hI : InsIn W None v l) (hl0 : l.length ≤ 9223372036854775807) : Calls Tryz.prog 3 #[v, .int .i64 ia, .int .i64 ib] W fun e w => e = .returned (.bool true) ∧ Mods None W w := by
  have HI := Lib.hid hI
  have HX := Lib.hid hx
  have HB := Lib.hid hB
  obtain ⟨oa, oc, rfl, -, -⟩ := hI
  obtain ⟨n, hn⟩ : ∃ n, n = l.length := ⟨_, rfl⟩
  have HN := Lib.hid hn
  rw [← hn] at hl0 ⊢
  clear hx hB hn
  by_cases hl : n ≤ 60
  rotate_left
  · have hg : (n : Int) > 60 := by omega
    go_enter Tryz.func3, Tryz.ntmps3
    go_wp2_with fail
    go_ret
    exact ⟨rfl, Mods.refl _ _⟩
  have hg2 : ¬ (n : Int) > 60 := by omega
  go_enter Tryz.func3, Tryz.ntmps3
  go_wp2_with fail
  refine (written_any W HB.out).mono ?_
  rintro e w1 ⟨rfl, hm1⟩
  have HM1 := Lib.hid hm1
  clear hm1
  go_wp2_with fail
  refine (pick_any ia ((n : Int) + 1) w1 (by omega) (by omega)).mono ?_
  rintro e w' ⟨rfl, rfl⟩
  go_wp2_with fail
  refine (pick_any ib ((n : Int) + 2) _ (by omega) (by omega)).mono ?_
  rintro e w' ⟨rfl, rfl⟩
  obtain ⟨at_, hat⟩ : ∃ k : Nat, pkn ia ((n : Int) + 1) = (k : Int) := ⟨(pkn ia ((n : Int) + 1)).toNat, by have := pkn_in ia ((n : Int) + 1) (by omega); omega⟩
  obtain ⟨tgt, htg⟩ : ∃ k : Nat, pkn ib ((n : Int) + 2) = (k : Int) := ⟨(pkn ib ((n : Int) + 2)).toNat, by have := pkn_in ib ((n : Int) + 2) (by omega); omega⟩
  have ha : at_ ≤ n := by have := pkn_in ia ((n : Int) + 1) (by omega); omega
  have htn : tgt ≤ n + 1 := by have := pkn_in ib ((n : Int) + 2) (by omega); omega
  rw [hat, htg]
  clear hat htg
  go_wp2_with fail
  go_loopw [7, 8] (fun tv iv wr => ∃ i : Nat, i ≤ n + 2 ∧ iv = .int .i64 i ∧ tv = .string ⟨(preT l at_ tgt i).toArray⟩ ∧ Hid (OkTo l at_ i ∧ Mods None W wr)) (fun _ iv _ => ((n : Int) + 2 - intOf iv).toNat)
  case atStart => exact ⟨0, by omega, rfl, rfl, Lib.hid ⟨fun j hj => by omega, HM1.out⟩⟩
  case round =>
    obtain ⟨i, hi, rfl, rfl, HO⟩ := hrel
    by_cases hlt : i < n + 2
    · have htl := pre_len HX.out at_ tgt i
      have HXX := rowI_i64 HX.out at_ i
      have hpl := print_len HXX
      have HPX := Lib.hid HXX
      obtain ⟨T, hT⟩ : ∃ T, T = preT l at_ tgt i := ⟨_, rfl⟩
      obtain ⟨T1, hT1⟩ : ∃ T1, T1 = preT l at_ tgt i ++ (if i = tgt then hereB ++ [58, 10] else []) := ⟨_, rfl⟩
      rw [← hT] at htl hT1 ⊢
      have HT := Lib.hid hT
      have HTN := Lib.hid hT1
      have hT1l : T1.length ≤ T.length + 6 := by
        rw [hT1, List.length_append]
        split
        · exact Nat.le_refl _
        · simp
      have htb : T1.length ≤ 20000 := by omega
      clear hT HXX
      have hin : (i : Int) ≤ n + 1 := by omega
      have hcase : i = tgt ∨ ¬ i = tgt := Classical.em _
      rcases hcase with ht | ht
      case' inl =>
        have ht1 : ((i : Int) == tgt) = true := by rw [beq_iff_eq]; omega
        rw [if_pos ht] at hT1
        have hs0 : ¬ 9223372036854775807 < T.length + 6 := by omega
        go_upto_region 12 with (fail)
        have ev : Value.string (⟨T.toArray⟩ ++ ⟨#[104, 101, 114, 101, 58, 10]⟩) = .string ⟨T1.toArray⟩ := by
          show Value.string (⟨T.toArray⟩ ++ ⟨([104, 101, 114, 101, 58, 10] : List UInt8).toArray⟩) = _
          rw [ba_append, hT1]
          rfl
        try rw [ev]
        clear ev ht1 hs0 hT1 ht
      case' inr =>
        have ht1 : ((i : Int) == tgt) = false := by rw [beq_eq_false_iff_ne]; omega
        rw [if_neg ht, List.append_nil] at hT1
        go_upto_region 12 with (fail)
        rw [← hT1]
        clear ht1 hT1 ht
      all_goals
        by_cases hia : i = at_
        · have ha1 : ((i : Int) == at_) = true := by rw [beq_iff_eq]; omega
          have hs0 : ¬ 9223372036854775807 < T1.length + 12 := by omega
          have HIA := Lib.hid hia
          clear hia
          go_wp2_with fail
          refine ⟨⟨i + 1, by omega, by go_num, ?_, Lib.hid ⟨HO.out.1.next (fun h => absurd HIA.out h), HO.out.2⟩⟩, by simp [intOf]; omega⟩
          rw [← preT_jal HIA.out T1 (by rw [HTN.out, HT.out])]
          show Value.string (⟨T1.toArray⟩ ++ ⟨([106, 97, 108, 32, 120, 49, 44, 104, 101, 114, 101, 10] : List UInt8).toArray⟩) = _
          rw [ba_append]
          rfl
        · have ha1 : ((i : Int) == at_) = false := by rw [beq_eq_false_iff_ne]; omega
          by_cases hil : i ≤ n
          rotate_left
          · have hil2 : ¬ (i : Int) ≤ n := by omega
            go_wp2_with fail
            refine ⟨⟨i + 1, by omega, by go_num, ?_, Lib.hid ⟨HO.out.1.next (fun _ h => absurd h (by rw [← HN.out]; exact hil)), HO.out.2⟩⟩, by simp [intOf]; omega⟩
            rw [← preT_none hia (by rw [← HN.out]; exact hil) T1 (by rw [HTN.out, HT.out])]
          · have hil2 : (i : Int) ≤ n := by omega
            obtain ⟨k, hk⟩ : ∃ k, k = (if at_ < i then i - 1 else i) := ⟨_, rfl⟩
            have hkn : k < n := by
              rw [hk]
              split <;> omega
            obtain ⟨x, hxk⟩ : ∃ x, l[k]? = some x := ⟨_, List.getElem?_eq_getElem (by rw [← HN.out]; exact hkn)⟩
            have hxr : rowI l at_ i = x := by
              unfold rowI
              rw [← hk, List.getD_eq_getElem?_getD, hxk]
              rfl
            have HXR := Lib.hid hxr
            have hp' := HPX.out
            rw [hxr] at hp' hpl
            have HP := Lib.hid (print_any x hp' wr (HB.out.next HO.out.2 far_none))
            obtain ⟨oa', oc', he, -, hc⟩ := HI.out.mods HO.out.2 (fun k h => h)
            obtain ⟨g, o, rfl, -, d0, d1, d2, d3, d4⟩ := hc k x hxk
            simp only [Value.slice.injEq] at he
            obtain ⟨rfl, -, rfl⟩ := he
            have hki : (k : Int) < n := by omega
            have HK := Lib.hid hk
            clear hc hxk hxr hp'
            have hcase2 : at_ < i ∨ ¬ at_ < i := Classical.em _
            rcases hcase2 with hai | hai
            case' inl =>
              have hai2 : (i : Int) > at_ := by omega
              have hk1 : (i : Int) - 1 = k := by
                rw [if_pos hai] at hk
                omega
              clear hk
              go_upto_region 18 with (fail)
            case' inr =>
              have hai2 : ¬ (i : Int) > at_ := by omega
              rw [if_neg hai] at hk
              subst k
              go_upto_region 18 with (fail)
            all_goals
              clear hai2
              go_wp2_with fail
              refine HP.out.mono ?_
              rintro e w2 ⟨rfl, hm2⟩
              have HM2 := Lib.hid (HO.out.2.trans hm2)
              clear hm2 d0 d1 d2 d3 d4 HP
              obtain ⟨rt, hrt⟩ : ∃ rt, rt = x.right := ⟨_, rfl⟩
              rw [← hrt]
              have HRT := Lib.hid hrt
              clear hrt
              cases rt with
              | false =>
                go_wp2_with fail
                go_ret
                exact ⟨rfl, HM2.out⟩
              | true =>
                obtain ⟨p, hp⟩ : ∃ p, p = printB x := ⟨_, rfl⟩
                rw [← hp] at hpl ⊢
                have HPX := Lib.hid hp
                clear hp
                unfold str
                have hs0 : ¬ 9223372036854775807 < p.length + 1 := by omega
                have hs1 : ¬ 9223372036854775807 < T1.length + (p.length + 1) := by omega
                go_wp2_with fail
                refine ⟨⟨i + 1, by omega, by go_num, ?_, Lib.hid ⟨HO.out.1.next (fun _ _ => by rw [HXR.out]; exact HRT.out.symm), HM2.out⟩⟩, by simp [intOf]; omega⟩
                rw [← preT_row hia (by rw [← HN.out]; exact hil) T1 (by rw [HTN.out, HT.out]), HXR.out, ← HPX.out]
                show Value.string (⟨T1.toArray⟩ ++ (⟨p.toArray⟩ ++ ⟨([10] : List UInt8).toArray⟩)) = _
                rw [ba_append, ba_append]
    · obtain rfl : i = n + 2 := by omega
      have hpi : ¬ ((n + 2 : Nat) : Int) ≤ n + 1 := by omega
      have htl := pre_len HX.out at_ tgt (n + 2)
      obtain ⟨T, hT⟩ : ∃ T, T = preT l at_ tgt (n + 2) := ⟨_, rfl⟩
      rw [← hT] at htl ⊢
      have HT := Lib.hid hT
      have HAR := Lib.hid (HO.out.1.all (by rw [← HN.out]; exact Nat.le_refl _))
      have HM2 := Lib.hid HO.out.2
      clear hT HO
      go_wp2_with fail
      refine (assemble_any T (by omega) wr (HB.out.next HM2.out far_none)).mono ?_
      rintro e w4 hP
      have hA := asm_place HAR.out (at_ := at_) (tgt := tgt) (by rw [← HN.out]; exact ha) (by rw [← HN.out]; exact htn) (by rw [← HN.out]; exact hl)
      rw [← HN.out, rest_pre, ← HT.out] at hA
      obtain ⟨X, hX⟩ : ∃ X, X = aimedL l at_ tgt := ⟨_, rfl⟩
      have hX' := hX
      unfold aimedL at hX'
      rw [← HN.out] at hX'
      rw [← hX'] at hA
      unfold AsmA at hP
      rw [hA] at hP
      obtain ⟨⟨vo, rfl, hrow⟩, hm4⟩ := hP
      have HM4 := Lib.hid (HM2.out.trans hm4)
      have HRO := Lib.hid hrow.at_
      obtain ⟨pa, pc, rfl, hp0, hpc⟩ := hrow.at_
      have hXl : X.length = n + 1 := by rw [hX, aimed_len, ← HN.out]
      have hXa : X[at_]? = some ⟨30, 1, 0, 0, ((tgt : Int) - at_) * 4⟩ := by rw [hX]; exact aimed_at tgt (by rw [← HN.out]; exact ha)
      have hXr : X.take at_ ++ X.drop (at_ + 1) = l := by rw [hX]; exact aimed_rest tgt (by rw [← HN.out]; exact ha)
      obtain ⟨g, o, rfl, -, d0, d1, d2, d3, d4⟩ := hpc at_ _ hXa
      have hcap : n + 1 ≤ pc := by
        obtain ⟨B0, hB0⟩ := hrow
        rcases hB0.2 with ⟨hv, h0⟩ | ⟨g2, cap, cur, hv, hb, hh, hle, -⟩
        · cases hv
        · simp only [Value.slice.injEq] at hv
          rw [hXl] at hle
          omega
      rw [hXl] at HRO ⊢
      have HX := Lib.hid (And.intro hXl hXr)
      clear hm4 hrow hXl hXa hXr hX hX' hA hpc hp0 HM2
      simp only at d0 d1 d2 d3 d4
      have hati : (at_ : Int) ≤ n := by omega
      have hatn : at_ + 1 ≤ n + 1 := by omega
      have ho8 : ((w4.alloc (.cells #[] 30)).drew).ownsRow w4.heap.size 30 5 (.slice (some ⟨w4.heap.size, 0, none⟩) 0 0) ([] : List Ins).length (insRow []) := ⟨rfl, .inr ⟨w4.heap.size, 0, #[], rfl, Nat.le_refl _, (Blk.new w4 #[] 30).drew, Nat.le_refl _, Nat.zero_le _, rfl, rfl⟩⟩
      have hm8 : Mods None w4 ((w4.alloc (.cells #[] 30)).drew) := ((Mods.refl _ _).alloc _).drew
      have HXO := HRO.out
      rw [← HX.out.1] at HXO
      obtain ⟨va, w8, hr8, hown8, hmm8⟩ := append_ins (X.take at_) [] w4.heap.size _ _ (.slice (some ⟨g, o, none⟩) at_ pc) 22 ho8 ((insIn_take HXO (by rw [HX.out.1]; omega) (fun h => by cases h)).mods hm8 (fun k h => h)) (by rw [List.length_take, HX.out.1]; simp; omega) (by simp [World.drew])
      have hmw8 : Mods None w4 w8 := hm8.trans' hmm8 (fun k hk hw => by have := (ho8.lt k hk).1; omega)
      have hown8' : w8.ownsRow w4.heap.size 30 5 va (X.take at_).length (insRow (X.take at_)) := by simpa using hown8
      obtain ⟨o2, k2, c2, hi2, ho2⟩ : ∃ o2 k2 c2, InsIn w4 None (.slice (some ⟨g, o2, none⟩) k2 c2) (X.drop (at_ + 1)) ∧ ((pc = at_ + 1 ∧ n = at_ ∧ o2 = o ∧ k2 = 0 ∧ c2 = 0) ∨ (¬ pc = at_ + 1 ∧ o2 = o + (at_ + 1) * 5 ∧ k2 = n - at_ ∧ c2 = pc - (at_ + 1))) := by
        by_cases hq : pc = at_ + 1
        · have e : X.drop (at_ + 1) = [] := by rw [List.drop_eq_nil_iff, HX.out.1]; omega
          exact ⟨o, 0, 0, by rw [e]; exact ⟨_, _, rfl, (fun h => by cases h), fun i x h => by cases h⟩, .inl ⟨hq, by omega, rfl, rfl, rfl⟩⟩
        · have := insIn_drop (k := at_ + 1) (c := pc - (at_ + 1)) HXO
          rw [HX.out.1, show n + 1 - (at_ + 1) = n - at_ by omega] at this
          exact ⟨_, _, _, this, .inr ⟨hq, rfl, rfl, rfl⟩⟩
      obtain ⟨vb, w9, hr9, hown9, hmm9⟩ := append_ins (X.drop (at_ + 1)) (X.take at_) w4.heap.size w8 va (.slice (some ⟨g, o2, none⟩) k2 c2) 22 hown8' (hi2.mods hmw8 (fun k h => h)) (by rw [List.length_take, List.length_drop, HX.out.1]; omega) hmw8.size
      have hmw9 : Mods None w4 w9 := hmw8.trans' hmm9 (fun k hk hw => by have := (hown8'.lt k hk).1; omega)
      have HRB := Lib.hid (InsRow.at_ (W := w9) (v := vb) (l := l) ⟨w4.heap.size, by
        rw [HX.out.2] at hown9
        have e : (X.take at_).length + (X.drop (at_ + 1)).length = l.length := by rw [← List.length_append, HX.out.2]
        rw [e] at hown9
        exact hown9⟩)
      have HRA := Lib.hid (HI.out.mods (HM4.out.trans hmw9) (fun k h => h))
      have HM9 := Lib.hid (HM4.out.trans hmw9)
      obtain ⟨ra, rc, rfl⟩ := row_form hown8'
      obtain ⟨rb, rd, rfl⟩ := row_form hown9
      have hrl : (X.take at_).length = at_ := by rw [List.length_take, HX.out.1]; omega
      have hsl : at_ + (X.drop (at_ + 1)).length = n := by rw [List.length_drop, HX.out.1]; omega
      rw [hrl] at hr8 hr9 HRB
      rw [hsl] at hr9 HRB
      rw [← HN.out] at HRA
      clear ho8 hm8 hown8 hmm8 hmw8 hown8' hown9 hmm9 hmw9 HXO hrl hsl hi2
      have H8 := Lib.hid hr8
      have H9 := Lib.hid hr9
      clear hr8 hr9
      have hap : at_ ≤ pc := by omega
      rcases ho2 with ⟨hq, hna, rfl, rfl, rfl⟩ | ⟨hq, rfl, rfl, rfl⟩
      case' inl =>
        subst hna
        subst hq
        have hnn : (n : Int) ≤ n + 1 := by omega
        have hwr : IntKind.i64.wrap ((n : Int) + 1) = ((n + 1 : Nat) : Int) := by rw [IntKind.wrap_i64]; omega
        have hnz : (0 : Int) ≤ (n : Int) + 1 := by omega
      case' inr =>
        have hwr : IntKind.i64.wrap ((at_ : Int) + 1) = ((at_ + 1 : Nat) : Int) := by rw [IntKind.wrap_i64]; omega
        have hnz : (0 : Int) ≤ (at_ : Int) + 1 := by omega
      all_goals
        go_wp2_with fail
        go_region_law (first
          | (refine step_append_run rfl (.tmp 99) (.tmp 102) 22 rfl H8.out ?_)
          | (refine step_append_run rfl (.tmp 103) (.tmp 107) 22 rfl H9.out ?_)
          | (go_simp; go_at_call 10; refine (equal_any l l (by rw [← HN.out]; omega) (by rw [← HN.out]; omega) _ _ w9 HRB.out HRA.out).mono ?_; rintro e wz ⟨rfl, hmz⟩; rw [decide_eq_true (rfl : l = l)]; have HMZ := Lib.hid (HM9.out.trans hmz); clear hmz))
        all_goals
          go_wp2_with fail
          go_ret
          exact ⟨rfl, HMZ.out⟩
end Go.Proofs.YtodgkbcgdbhpeaaGreatDoor.AsmP

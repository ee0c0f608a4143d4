/- The reference's reading of names, numbers, registers; what stands behind an op. Conditions: the tables lie. -/
import Derived.Test.YtodgkbcgdbhpeaaGreatDoorAsmW
import Derived.Test.YtodgkbcgdbhpeaaGreatDoorRefForm
import Derived.Test.YtodgkbcgdbhpeaaGreatDoorRefSmall
namespace Go.Proofs.YtodgkbcgdbhpeaaGreatDoor.AsmP
open Go.RowKit Go.Proofs.YtodgkbcgdbhpeaaGreatDoor.WordP Go.Proofs.YtodgkbcgdbhpeaaGreatDoor.Wo
set_option linter.unusedVariables false
set_option linter.unusedSimpArgs false
/-- A letter may stand at i. -/
def posOk (i : Nat) (c : UInt8) : Bool := lowB c || (decide (i ≠ 0) && nameC c)
theorem posOk_all (s : List UInt8) : (∀ j c, s[j]? = some c → posOk j c = true) ↔ ((match s with | c :: _ => lowB c | [] => true) && s.all nameC) = true := by
  rw [Bool.and_eq_true, List.all_eq_true]
  have hn : ∀ c, lowB c = true → nameC c = true := fun c h => by simp [nameC, h]
  constructor
  · intro h
    refine ⟨?_, fun c hc => ?_⟩
    · cases s with
      | nil => rfl
      | cons c r =>
        have := h 0 c rfl
        simpa [posOk] using this
    · obtain ⟨j, hj⟩ := List.mem_iff_getElem?.1 hc
      have := h j c hj
      unfold posOk at this
      rw [Bool.or_eq_true, Bool.and_eq_true] at this
      rcases this with h1 | h1
      · exact hn c h1
      · exact h1.2
  · rintro ⟨h1, h2⟩ j c hj
    cases j with
    | zero =>
      cases s with
      | nil => cases hj
      | cons d r =>
        cases hj
        simp only at h1
        simp [posOk, h1]
    | succ j => simp [posOk, h2 c (List.mem_of_getElem? hj)]
theorem posOk_iff {i : Nat} {c : UInt8} {k : Int} (hk : (c.toNat : Int) = k) : posOk i c = true ↔ (97 ≤ k ∧ k ≤ 122) ∨ (¬ i = 0 ∧ ((48 ≤ k ∧ k ≤ 57) ∨ k = 95 ∨ k = 46)) := by
  have h95 : c = 95 ↔ c.toNat = 95 := by rw [← UInt8.toNat_inj]; rfl
  have h46 : c = 46 ↔ c.toNat = 46 := by rw [← UInt8.toNat_inj]; rfl
  simp only [posOk, nameC, lowB, digB, Bool.or_eq_true, Bool.and_eq_true, decide_eq_true_eq, beq_iff_eq, h95, h46]
  omega
theorem nameB_pos (s : List UInt8) : nameB s = (decide (1 ≤ s.length) && decide (s.length ≤ 24) && ((match s with | c :: _ => lowB c | [] => true) && s.all nameC)) := by
  unfold nameB
  cases s with
  | nil => simp
  | cons c r => simp [Bool.and_assoc]
set_option maxRecDepth 100000 in
set_option maxHeartbeats 1000000 in
theorem ref_name (s : List UInt8) (hs : s.length ≤ 1000000) (W : World) : Calls Tryz.prog 17 #[str s] W fun e w => e = .returned (.bool (nameB s)) ∧ W = w := by
  obtain ⟨n, hn⟩ : ∃ n, n = s.length := ⟨_, rfl⟩
  have HN := Lib.hid hn
  have hsz : (⟨s.toArray⟩ : ByteArray).size = n := by rw [hn]; simp [ByteArray.size]
  rw [← hn] at hs
  clear hn
  unfold str
  go_enter Tryz.func17, Tryz.ntmps17
  go_wp2_with fail
  go_wp2_with fail
  go_loopw [7] (fun iv wr => ∃ i : Nat, i ≤ n ∧ iv = .int .i64 i ∧ wr = W ∧ Hid (∀ j c, j < i → s[j]? = some c → posOk j c = true)) (fun iv _ => (n - intOf iv).toNat)
  case atStart => exact ⟨0, Nat.zero_le _, rfl, rfl, Lib.hid (fun j c hj => by omega)⟩
  case round =>
    obtain ⟨i, hi, rfl, rfl, HO⟩ := hrel
    by_cases hlt : i < n
    · obtain ⟨c, hc⟩ : ∃ c, s[i]? = some c := ⟨_, List.getElem?_eq_getElem (by rw [← HN.out]; exact hlt)⟩
      have hlt2 : (i : Int) < n := by omega
      have HC := Lib.hid hc
      have HNX : Hid (posOk i c = true → ∀ j d, j < i + 1 → s[j]? = some d → posOk j d = true) := Lib.hid (fun hp j d hj hd => by
        by_cases e : j = i
        · subst e
          rw [hc] at hd
          cases hd
          exact hp
        · exact HO.out j d (by omega) hd)
      have HNO : Hid (posOk i c = false → nameB s = false) := Lib.hid (fun hp => by
        rw [nameB_pos, Bool.and_eq_false_iff]
        right
        rw [Bool.eq_false_iff]
        intro h
        have := (posOk_all s).2 h i c HC.out
        rw [hp] at this
        cases this)
      have hpk := fun k hk => posOk_iff (i := i) (c := c) (k := k) hk
      have HPK := Lib.hid hpk
      have hci : (⟨s.toArray⟩ : ByteArray)[i]'(by rw [hsz]; exact hlt) = c := by
        obtain ⟨h, e⟩ := List.getElem?_eq_some_iff.1 hc
        exact e
      clear hc hpk
      obtain ⟨k, hk⟩ : ∃ k : Int, (c.toNat : Int) = k := ⟨_, rfl⟩
      have HK := Lib.hid hk
      go_wp2_with fail
      all_goals first
        | (exfalso
           simp only [Bool.not_eq_true', Bool.not_eq_false', decide_eq_true_eq, decide_eq_false_iff_not, beq_eq_false_iff_ne, bne_eq_false_iff_eq, bne_iff_ne, beq_iff_eq, ne_eq] at *
           omega)
        | (have hp : posOk i c = false := by
             rw [Bool.eq_false_iff]
             intro h
             rw [HPK.out k HK.out] at h
             try simp only [Bool.not_eq_true', Bool.not_eq_false', decide_eq_true_eq, decide_eq_false_iff_not, beq_eq_false_iff_ne, bne_eq_false_iff_eq, bne_iff_ne, beq_iff_eq, ne_eq] at *
             omega
           have hnb := HNO.out hp
           go_ret
           rw [hnb]
           exact ⟨rfl, rfl⟩)
        | (have hp : posOk i c = true := by
             rw [HPK.out k HK.out]
             try simp only [Bool.not_eq_true', Bool.not_eq_false', decide_eq_true_eq, decide_eq_false_iff_not, beq_eq_false_iff_ne, bne_eq_false_iff_eq, bne_iff_ne, beq_iff_eq, ne_eq] at *
             omega
           have hnx := HNX.out hp
           exact ⟨⟨i + 1, by omega, by go_num, trivial, Lib.hid hnx⟩, by simp [intOf]; omega⟩)
    · obtain rfl : i = n := by omega
      have hpi : ¬ (i : Int) < (i : Int) := by omega
      have HNB : Hid (nameB s = (decide (1 ≤ s.length) && decide (s.length ≤ 24))) := Lib.hid (by
        rw [nameB_pos, (posOk_all s).1 (fun j c hj => HO.out j c (by rw [HN.out]; exact (List.getElem?_eq_some_iff.1 hj).1) hj), Bool.and_true])
      go_wp2_with fail
      refine (RefP.in_any _ _ _ _).mono ?_
      rintro e w ⟨rfl, rfl⟩
      go_wp2_with fail
      go_ret
      rw [HNB.out]
      refine ⟨?_, rfl⟩
      have e1 : decide (1 ≤ (i : Int)) = decide (1 ≤ s.length) := decide_eq_decide.2 (by rw [← HN.out]; omega)
      have e2 : decide ((i : Int) ≤ 24) = decide (s.length ≤ 24) := decide_eq_decide.2 (by rw [← HN.out]; omega)
      rw [← e1, ← e2]
      rfl
theorem ref_whole (s : List UInt8) (hs : s.length ≤ 1000000) (W : World) (hB : Base W) : Calls Tryz.prog 68 #[str s] W (NumP s W) := by
  have HP := Lib.hid (parse_any s hs W hB)
  have HB := Lib.hid hB
  clear hB
  go_enter Tryz.func68, Tryz.ntmps68
  go_wp2_with fail
  refine HP.out.mono ?_
  rintro e w1 ⟨⟨v, ev, rfl, hv, h⟩, hm1⟩
  have HM1 := Lib.hid hm1
  have HF := Lib.hid (fun (w : World) (hm : Mods None W w) => format_any v hv.1 hv.2 w (HB.out.next hm far_none).pow)
  have HV := Lib.hid hv
  clear hm1 hv HP
  rcases h with ⟨h1, rfl⟩ | ⟨h1, h2, te, pe, rfl⟩
  · go_wp2_with fail
    refine (HF.out w1 HM1.out).mono ?_
    rintro e w2 ⟨rfl, hm2⟩
    have HM2 := Lib.hid (HM1.out.trans hm2)
    clear hm2
    unfold str
    go_wp2_with fail
    go_ret2
    refine ⟨⟨v, Lib.itoa v == s, rfl, HV.out, ?_⟩, HM2.out⟩
    unfold numR
    rw [h1]
    by_cases hq : Lib.itoa v = s
    · exact Or.inl ⟨by simpa using hq, by simp only [if_pos hq]⟩
    · exact Or.inr ⟨by simpa using hq, by simp only [if_neg hq], fun h => absurd rfl (h.1 _)⟩
  · go_wp2_with fail
    go_ret2
    refine ⟨⟨v, false, rfl, HV.out, Or.inr ⟨rfl, ?_, h2⟩⟩, HM1.out⟩
    unfold numR
    cases hp : Lib.parseIntB 64 s with
    | ok n => exact absurd hp (h1 n)
    | range => rfl
    | _ => rfl
theorem x_list (p : List UInt8) : ((⟨#[120]⟩ : ByteArray) ++ ⟨p.toArray⟩).toList = 120 :: p := by
  rw [show (⟨#[120]⟩ : ByteArray) = ⟨([120] : List UInt8).toArray⟩ from rfl, ba_append]
  simp
theorem regR_some {s : List UInt8} {n : Int} (h : regR s = some n) : s = regT n ∧ 0 ≤ n ∧ n < 32 := by
  unfold regR at h
  cases s with
  | nil => cases h
  | cons c t =>
    simp only at h
    split at h
    · rename_i hc
      split at h
      · split at h
        · rename_i hq
          cases h
          exact ⟨by rw [hc, regT, hq.2.2], hq.1, hq.2.1⟩
        · cases h
      · cases h
    · cases h
set_option maxRecDepth 100000 in
set_option maxHeartbeats 1000000 in
theorem ref_reg (s : List UInt8) (W : World) (hB : Base W) : Calls Tryz.prog 67 #[str s] W (RegP s W) := by
  have HB := Lib.hid hB
  clear hB
  unfold str
  go_enter Tryz.func67, Tryz.ntmps67
  go_wp2_with fail
  go_loopw [5] (fun iv wr => ∃ i : Nat, i ≤ 32 ∧ iv = .int .i64 i ∧ Hid ((∀ j : Nat, j < i → s ≠ regT j) ∧ Mods None W wr)) (fun iv _ => (32 - intOf iv).toNat)
  case atStart => exact ⟨0, by omega, rfl, Lib.hid ⟨fun j hj => by omega, Mods.refl _ _⟩⟩
  case round =>
    obtain ⟨i, hi, rfl, HO⟩ := hrel
    by_cases hlt : i < 32
    · have hlt2 : (i : Int) < 32 := by omega
      go_wp2_with fail
      refine (itoa_any (i : Int) (by omega) (by omega) wr (HB.out.next HO.out.2 far_none).pow).mono ?_
      rintro e w2 ⟨rfl, hm2⟩
      have HM2 := Lib.hid (HO.out.2.trans hm2)
      clear hm2
      obtain ⟨p, hp⟩ : ∃ p, p = Lib.itoa (i : Int) := ⟨_, rfl⟩
      have hpl := itoa_len (n := (i : Int)) (by omega) (by omega)
      rw [← hp] at hpl ⊢
      have HPX := Lib.hid hp
      clear hp
      unfold str
      have hs0 : ¬ 9223372036854775807 < 1 + p.length := by omega
      by_cases he : s = 120 :: p
      · have hne : (s == ((⟨#[120]⟩ : ByteArray) ++ ⟨p.toArray⟩).toList) = true := by rw [x_list, beq_iff_eq]; exact he
        have HE := Lib.hid he
        clear he
        go_wp2_with fail
        go_ret2
        refine ⟨⟨(i : Int), true, rfl, by omega, .inl ⟨rfl, ?_⟩⟩, HM2.out⟩
        rw [HE.out, HPX.out]
        exact regR_regT (by omega) (by omega)
      · have hne : (s == ((⟨#[120]⟩ : ByteArray) ++ ⟨p.toArray⟩).toList) = false := by rw [x_list, beq_eq_false_iff_ne]; exact he
        go_wp2_with fail
        refine ⟨⟨i + 1, by omega, by go_num, Lib.hid ⟨fun j hj h => ?_, HM2.out⟩⟩, by simp [intOf]; omega⟩
        by_cases e : j = i
        · subst e
          rw [regT, ← HPX.out] at h
          exact he h
        · exact HO.out.1 j (by omega) h
    · obtain rfl : i = 32 := by omega
      go_wp2_with fail
      go_ret2
      refine ⟨⟨0, false, rfl, by omega, .inr ⟨rfl, ?_⟩⟩, HO.out.2⟩
      cases hr : regR s with
      | none => rfl
      | some n =>
        obtain ⟨h1, h2, h3⟩ := regR_some hr
        have := HO.out.1 n.toNat (by omega)
        rw [show ((n.toNat : Nat) : Int) = n by omega] at this
        exact absurd h1 this
/-- What stands behind an op, by the reference. -/
def shapeOf (op : Int) : List UInt8 := if op = 0 then [] else partsOf op
set_option maxRecDepth 100000 in
set_option maxHeartbeats 1000000 in
theorem shape_at (op k l m h : Int) (nm : ByteArray) (p : List UInt8) (W : World) (hF : Calls Tryz.prog 38 #[.int .i64 op] W fun e W' => e = .returned (.tuple #[.agg #[.int .u8 k, .int .u32 l, .int .u32 m, .int .u32 h, .string nm], .bool true]) ∧ Mods None W W')
    (hc : (k = 82 ∧ p = [100, 97, 98]) ∨ (k = 73 ∧ (op == 22) = false ∧ (op == 23) = false ∧ p = [100, 97, 110]) ∨ (k = 72 ∧ (op == 22) = false ∧ (op == 23) = false ∧ p = [100, 97, 110]) ∨ (k = 73 ∧ (op == 22) = true ∧ True ∧ p = [100, 109]) ∨ (k = 73 ∧ (op == 22) = false ∧ (op == 23) = true ∧ p = [100, 109]) ∨
      (k = 83 ∧ (op == 22) = false ∧ (op == 23) = false ∧ p = [98, 109]) ∨ (k = 66 ∧ (op == 22) = false ∧ (op == 23) = false ∧ p = [97, 98, 116]) ∨ (k = 85 ∧ (op == 22) = false ∧ (op == 23) = false ∧ p = [100, 110]) ∨ (k = 74 ∧ (op == 22) = false ∧ (op == 23) = false ∧ p = [100, 116]) ∨ (k = 69 ∧ (op == 22) = false ∧ (op == 23) = false ∧ p = [])) :
    Calls Tryz.prog 39 #[.int .i64 op] W fun e w => e = .returned (str p) ∧ Mods None W w := by
  have HF := Lib.hid hF
  clear hF
  unfold str
  rcases hc with ⟨rfl, rfl⟩ | ⟨rfl, n1, n2, rfl⟩ | ⟨rfl, n1, n2, rfl⟩ | ⟨rfl, n1, n2, rfl⟩ | ⟨rfl, n1, n2, rfl⟩ | ⟨rfl, n1, n2, rfl⟩ | ⟨rfl, n1, n2, rfl⟩ | ⟨rfl, n1, n2, rfl⟩ | ⟨rfl, n1, n2, rfl⟩ | ⟨rfl, n1, n2, rfl⟩
  all_goals
    go_enter Tryz.func39, Tryz.ntmps39
    go_wp2_with fail
    refine HF.out.mono ?_
    rintro e w ⟨rfl, hm⟩
    have HM := Lib.hid hm
    clear hm
    go_wp2_with fail
    go_ret
    exact ⟨rfl, HM.out.alloc _⟩
theorem parts_tab : ∀ i : Fin 32, 1 ≤ i.val → (kindOf i.val = 82 ∧ partsOf i.val = [100, 97, 98]) ∨ (kindOf i.val = 73 ∧ ((i.val : Int) == 22) = false ∧ ((i.val : Int) == 23) = false ∧ partsOf i.val = [100, 97, 110]) ∨ (kindOf i.val = 72 ∧ ((i.val : Int) == 22) = false ∧ ((i.val : Int) == 23) = false ∧ partsOf i.val = [100, 97, 110]) ∨ (kindOf i.val = 73 ∧ ((i.val : Int) == 22) = true ∧ True ∧ partsOf i.val = [100, 109]) ∨ (kindOf i.val = 73 ∧ ((i.val : Int) == 22) = false ∧ ((i.val : Int) == 23) = true ∧ partsOf i.val = [100, 109]) ∨
      (kindOf i.val = 83 ∧ ((i.val : Int) == 22) = false ∧ ((i.val : Int) == 23) = false ∧ partsOf i.val = [98, 109]) ∨ (kindOf i.val = 66 ∧ ((i.val : Int) == 22) = false ∧ ((i.val : Int) == 23) = false ∧ partsOf i.val = [97, 98, 116]) ∨ (kindOf i.val = 85 ∧ ((i.val : Int) == 22) = false ∧ ((i.val : Int) == 23) = false ∧ partsOf i.val = [100, 110]) ∨ (kindOf i.val = 74 ∧ ((i.val : Int) == 22) = false ∧ ((i.val : Int) == 23) = false ∧ partsOf i.val = [100, 116]) ∨ (kindOf i.val = 69 ∧ ((i.val : Int) == 22) = false ∧ ((i.val : Int) == 23) = false ∧ partsOf i.val = []) := by decide
set_option maxRecDepth 100000 in
theorem ref_shape (op : Int) (h : op = 0 ∨ (1 ≤ op ∧ op ≤ 31)) (W : World) : Calls Tryz.prog 39 #[.int .i64 op] W fun e w => e = .returned (str (shapeOf op)) ∧ Mods None W w := by
  unfold shapeOf
  rcases h with rfl | ⟨h1, h2⟩
  · have HF := Lib.hid (RefP.form_no 0 (by omega) W)
    rw [if_pos rfl]
    unfold str
    go_enter Tryz.func39, Tryz.ntmps39
    go_wp2_with fail
    refine HF.out.mono ?_
    rintro e w ⟨rfl, hm⟩
    have HM := Lib.hid hm
    clear hm
    go_wp2_with fail
    go_ret
    exact ⟨rfl, HM.out.alloc _⟩
  · rw [if_neg (by omega)]
    obtain ⟨i, hi, hi1⟩ := op_fin h1 h2
    have hp := parts_tab i hi1
    rw [← hi] at hp
    exact shape_at op (kindOf op) _ _ _ _ _ W (RefP.form_yes op h1 h2 W) hp
end Go.Proofs.YtodgkbcgdbhpeaaGreatDoor.AsmP

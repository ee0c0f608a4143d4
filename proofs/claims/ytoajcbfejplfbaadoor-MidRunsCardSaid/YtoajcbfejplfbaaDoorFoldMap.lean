/- Maps of numbers by numbers: what is there, what is put, what is left out. Conditions: what is asked lies. -/
import Derived.Test.YtoajcbfejplfbaaDoorMidMem
import Derived.Test.YtoajcbfejplfbaaDoorFoldP
import Derived.Maps.RangeWalk
import Derived.StillTailTactics
import Derived.Deep.Cut
import Derived.Deep.DeepCutAuto
namespace Go.Proofs.YtoajcbfejplfbaaDoor.MidP
open Go.RowKit Go.Proofs.YtoajcbfejplfbaaDoor.Wo Go.Maps Go.Proofs.YtoajcbfejplfbaaDoor.TreeP
set_option linter.unusedVariables false
set_option linter.unusedSimpArgs false
abbrev DV := DataW Value
/-- A map of numbers (E: of which type) by numbers. -/
def OMap (E : TypeId) (W : World) (bm n : Nat) (F : Int → Option Int) : Prop :=
  ∃ D : DV, W.ownsMap Tryd.prog 3 (plainElem Tryd.prog E) bm n D ∧ ∀ (a : Int) (z : DV), D.atKey (.int .i64 a) z = (match F a with | some x => .lit (.int .i64 x) | none => z)
theorem OMap.mods {E : TypeId} {S : Nat → Prop} {W W' : World} {bm n : Nat} {F : Int → Option Int} (h : OMap E W bm n F) (hm : Mods S W W') (hn : ¬ S bm) : OMap E W' bm n F := by
  obtain ⟨D, ⟨es, cl, h1, h2⟩, h3⟩ := h
  exact ⟨D, ⟨es, cl, hm.blockOf h1 hn, h2⟩, h3⟩
theorem OMap.lt {E : TypeId} {W : World} {bm n : Nat} {F : Int → Option Int} (h : OMap E W bm n F) : bm < W.heap.size := by
  obtain ⟨D, h1, _⟩ := h
  exact h1.lt
theorem OMap.more {E : TypeId} {W : World} {bm n m : Nat} {F : Int → Option Int} (h : OMap E W bm n F) (hm : n ≤ m) : OMap E W bm m F := by
  obtain ⟨D, h1, h2⟩ := h
  exact ⟨D, h1.mono hm, h2⟩
theorem OMap.new (E : TypeId) (W : World) : OMap E (W.alloc (.map #[] 0)) W.heap.size 0 (fun _ => none) :=
  ⟨_, World.ownsMap_made _ _ _ _, fun s z => rfl⟩
theorem OMap.look {E : TypeId} {W : World} {bm n : Nat} {F : Int → Option Int} (h : OMap E W bm n F) {t : TypeId} (ht : Tryd.prog.underlying t = some (.map 3 E)) (he : Tryd.prog.underlying E = some (.int .i64)) (hz : (zeroValue E).run Tryd.prog W = .ok (.int .i64 0) W) {a : Int} (ha : I64 a) :
    (Instr.lookup t (.map (some bm)) (.int .i64 a) true).run Tryd.prog W = .ok (.tuple #[.int .i64 ((F a).getD 0), .bool (F a).isSome]) W := by
  obtain ⟨D, h1, h2⟩ := h
  obtain ⟨v, ps, hr, hv⟩ := h1.look_ok intKeys ht hz (zd := .lit (.int .i64 0)) (zp := []) (plainElem_int he (by decide)) (keyInt ha)
  rw [h2 a] at hv
  cases hf : F a with
  | none =>
    rw [hf] at hv
    obtain ⟨c, rfl, hc, hw⟩ := plainElem_int_inv he hv
    simp only [Prod.mk.injEq, DataW.lit.injEq, Lit.int.injEq, true_and] at hc
    rw [hr, has_false_of_atKey (fun z => by rw [h2 a, hf])]
    simp [← hc.1]
  | some x =>
    rw [hf] at hv
    obtain ⟨c, rfl, hc, hw⟩ := plainElem_int_inv he hv
    simp only [Prod.mk.injEq, DataW.lit.injEq, Lit.int.injEq, true_and] at hc
    rw [hr, has_true_of_atKey (y := .lit (.int .i64 x)) (fun z => by rw [h2 a, hf])]
    simp [← hc.1]
theorem OMap.put {E : TypeId} {W : World} {bm n : Nat} {F : Int → Option Int} (h : OMap E W bm n F) {t : TypeId} (ht : Tryd.prog.underlying t = some (.map 3 E)) (he : Tryd.prog.underlying E = some (.int .i64)) {a x : Int} (ha : I64 a) (hx : I64 x) (hn : n < maxLen) :
    ∃ w', (Instr.mapUpdate t (.map (some bm)) (.int .i64 a) (.int .i64 x)).run Tryd.prog W = .ok () w' ∧ OMap E w' bm (n + 1) (setO F a x) ∧ Mods (· = bm) W w' := by
  obtain ⟨D, h1, h2⟩ := h
  obtain ⟨w', hr, ho, hg⟩ := h1.update intKeys ht hn (keyInt ha) (plainElem_int he (wf_of hx))
  refine ⟨w', hr, ⟨_, ho, fun y z => ?_⟩, Mods.of_grownBy hg (fun k hk _ => by cases hk; rfl)⟩
  unfold setO
  by_cases hy : y = a
  · subst hy
    simp only [if_true]
    rw [atKey_put_same (k := .int .i64 y) h1.isMap (by trivial)]
  · simp only [if_neg hy]
    rw [atKey_put_other (by simpa using hy), h2 y]
theorem del_same_lit {a y : Int} : (Lit.int .i64 a).sameKey (.int .i64 y) = decide (a = y) := by
  by_cases h : a = y
  · subst h
    simp [WideAt.sameKey_self (a := Lit.int .i64 a) trivial]
  · rw [sameKey_ne (by simpa using h)]
    simp [h]
/-- What is known, as it lies. -/
structure KAt (W : World) (kb nb sb n : Nat) (K : Kn) : Prop where
  blk : Blk W kb [.map (some nb), .map (some sb)] 117
  nums : OMap 2 W nb n K.nums
  same : OMap 3 W sb n K.same
  ne : nb ≠ sb ∧ kb ≠ nb ∧ kb ≠ sb
  okn : ∀ p x, K.nums p = some x → I64 x
  oks : ∀ p x, K.same p = some x → I64 x
theorem KAt.mods {W W' : World} {S : Nat → Prop} {kb nb sb n : Nat} {K : Kn} (h : KAt W kb nb sb n K) (hm : Mods S W W') (h1 : ¬ S kb) (h2 : ¬ S nb) (h3 : ¬ S sb) : KAt W' kb nb sb n K :=
  ⟨h.blk.mods hm h1, h.nums.mods hm h2, h.same.mods hm h3, h.ne, h.okn, h.oks⟩
theorem kn_zero_int (w : World) : (zeroValue 3).run Tryd.prog w = .ok (.int .i64 0) w := by kernel_rfl
theorem kn_zero_int64 (w : World) : (zeroValue 2).run Tryd.prog w = .ok (.int .i64 0) w := by kernel_rfl
theorem Kn.of64 {K : Kn} (h : ∀ p x, K.same p = some x → I64 x) {p : Int} (hp : I64 p) : I64 (K.of p) := by
  unfold Kn.of
  cases hk : K.same p with
  | none => exact hp
  | some x => exact h p x hk
set_option maxRecDepth 100000 in
theorem of_any {W : World} {kb nb sb n : Nat} {K : Kn} (h : KAt W kb nb sb n K) {p : Int} (hp : I64 p) :
    Calls Tryd.prog 90 #[.pointer (some ⟨kb, 0, none⟩), .int .i64 p] W fun e w => e = .returned (.int .i64 (K.of p)) ∧ W = w := by
  have hl := h.same.look (t := 72) Tryd.underlying72 Tryd.underlying3 (kn_zero_int _) hp
  have c1 := h.blk.cell (i := 1) rfl
  obtain ⟨q, hq⟩ : ∃ q, q = K.of p := ⟨_, rfl⟩
  have HQ := Lib.hid hq
  unfold Kn.of at hq
  rw [← HQ.out]
  clear h
  cases hs : K.same p with
  | none =>
    rw [hs] at hq hl
    simp only [Option.getD_none, Option.isSome_none] at hl hq
    subst hq
    clear hs
    go_enter Tryd.func90, Tryd.ntmps90
    go_wp2_with fail
    go_ret
    exact ⟨rfl, rfl⟩
  | some x =>
    rw [hs] at hq hl
    simp only [Option.getD_some, Option.isSome_some] at hl hq
    subst hq
    clear hs HQ
    go_enter Tryd.func90, Tryd.ntmps90
    go_wp2_with fail
    go_ret
    exact ⟨rfl, rfl⟩
theorem kn_eq_call (p x q : Int) (b : Nat) (w : World) (hb : w.cell? ⟨b, 0, none⟩ = some (.int .i64 p)) :
    Calls Tryd.prog 92 #[.int .i64 x, .int .i64 q, .pointer (some ⟨b, 0, none⟩)] w fun e w' => e = .returned (.bool (q == p)) ∧ w = w' := by
  go_enter Tryd.func92, Tryd.ntmps92
  go_wp2_with fail
  go_ret
  exact ⟨rfl, rfl⟩
/-- A map of which some entries are struck: those that are p, and not still to come. -/
def strikeO (F : Int → Option Int) (p : Int) (left : Lit → Bool) : Int → Option Int := fun y => if F y = some p ∧ left (.int .i64 y) = false then none else F y
set_option maxRecDepth 100000 in
set_option maxHeartbeats 1000000 in
theorem delete_any {W : World} {sb n b : Nat} {F : Int → Option Int} {p : Int} (h : OMap 3 W sb n F) (hb : W.cell? ⟨b, 0, none⟩ = some (.int .i64 p)) (hbs : b ≠ sb) :
    Calls Tryd.prog 91 #[.map (some sb), .func (.func 92) #[] #[.pointer (some ⟨b, 0, none⟩)]] W fun e w => e = .returned (.tuple #[]) ∧ OMap 3 w sb n (dropO F p) ∧ Mods (· = sb) W w := by
  obtain ⟨D, hown, hat⟩ := h
  have HAT := Lib.hid hat
  have HB := Lib.hid hb
  clear hat hb
  go_enter Tryd.func91, Tryd.ntmps91
  go_wp2_with (at_range; refine wpList_range_own _ rfl _ 72 rfl 3 3 intKeys Tryd.underlying72 _ sb n _ rfl hown ?_; intro w0 hrg0 hg0 hs0; have HRG := Lib.hid hrg0; have HG0 := Lib.hid (And.intro hg0 hs0); clear hrg0 hg0 hs0)
  go_frame
  go_loopw [] (fun wr => ∃ (left : Lit → Bool) (cnt : Nat) (D' : DV), Hid (wr.ranges Tryd.prog 3 (plainElem Tryd.prog 3) sb W.heap.size n D' left cnt) ∧ Hid (∀ (a : Int) (z : DV), D'.atKey (.int .i64 a) z = (match strikeO F p left a with | some x => .lit (.int .i64 x) | none => z)) ∧ Hid (W.grownBy wr (some sb)))
    (fun wr => wr.rangeLeft sb W.heap.size)
  case atStart =>
    refine ⟨_, _, D, HRG, Lib.hid (fun a z => ?_), Lib.hid (HG0.out.1.but _)⟩
    rw [HAT.out a z]
    unfold strikeO
    cases hf : F a with
    | none => simp
    | some x =>
      have : Maps.has D (.int .i64 a) = true := has_true_of_atKey (y := .lit (.int .i64 x)) (fun z => by rw [HAT.out a z, hf])
      simp [this]
  case round =>
    clear HRG HG0
    obtain ⟨left, cnt, D', HRG, HIN, HGW⟩ := hrel
    go_wp2_with (at_next; refine wpList_next_ranges_ii _ rfl _ rfl 3 3 .i64 .i64 intKeys Tryd.underlying3 Tryd.underlying3 sb W.heap.size n _ _ _ rfl HRG.out ?_ ?_)
    · intro hc0 hl0
      have HL0 := Lib.hid hl0
      clear hc0 hl0
      go_wp2
      go_end0
      refine ⟨rfl, ⟨D', HRG.out.owns, fun a z => ?_⟩, Mods.of_grownBy HGW.out (fun k hk _ => by cases hk; rfl)⟩
      rw [HIN.out a z]
      unfold strikeO dropO
      simp [HL0.out]
    · intro x c w1 cnt1 hwx hwc hlx hat hrg1 hlt hg1 hs1 hen
      have hgw1 := HGW.out.andThen hg1 (fun j hj => by cases hj; exact Or.inl (Nat.le_refl _))
      have HGW1 := Lib.hid hgw1
      have HRG1 := Lib.hid hrg1
      have HWX := Lib.hid hwx
      have HH := Lib.hid (And.intro hlx (And.intro hlt hs1))
      have hb1 : w1.cell? ⟨b, 0, none⟩ = some (.int .i64 p) := (Mods.of_grownBy (S := (· = sb)) hgw1 (fun k hk _ => by cases hk; rfl)).cellOf HB.out hbs
      have hF : F x = some c := by
        have h1 := HIN.out x (.lit (.int .i64 (c + 1)))
        rw [hat] at h1
        unfold strikeO at h1
        rw [if_neg (by simp [hlx])] at h1
        cases hf : F x with
        | none =>
          rw [hf] at h1
          simp only [DataW.lit.injEq, Lit.int.injEq, true_and] at h1
          omega
        | some y =>
          rw [hf] at h1
          simp only [DataW.lit.injEq, Lit.int.injEq, true_and] at h1
          rw [h1]
      have HF := Lib.hid hF
      have HEN := Lib.hid hen
      clear hgw1 hrg1 hwx hlx hat hlt hg1 hs1 hF
      by_cases hcp : c = p
      · have hce : (c == p) = true := by simp [hcp]
        have HCP := Lib.hid hcp
        clear hcp
        go_wp2_with (first | (go_at_call 92; refine (kn_eq_call p x c b _ hb1).mono ?_; rintro e w' ⟨rfl, rfl⟩) | (at_delete; refine wpList_delete_ranges _ rfl _ _ 72 3 rfl 3 intKeys Tryd.underlying72 _ sb W.heap.size n _ _ _ rfl HRG1.out _ _ rfl (keyOf_int_mk Tryd.underlying3 HWX.out) ?_; intro w2 cnt2 hrg2 hle hturn; have HRG2 := Lib.hid hrg2; have HT := Lib.hid (And.intro hle hturn); clear hrg2 hle hturn; go_frame))
        go_roundw
        case rel =>
          refine ⟨_, cnt2, _, Lib.hid (by have h := HRG2.out; rw [strike_twice] at h; exact h), Lib.hid (fun a z => ?_), Lib.hid (HGW1.out.andThen HT.out.2.grown (fun j hj => by cases hj; exact Or.inr rfl))⟩
          by_cases hax : a = x
          · subst hax
            rw [atKey_del_same]
            unfold strikeO
            rw [if_pos (by rw [HF.out, HCP.out]; simp [del_same_lit])]
          · rw [atKey_del_other (by simpa using hax), HIN.out a z]
            unfold strikeO
            simp [del_same_lit, hax]
        case measure => rw [HRG2.out.left_eq, HRG.out.left_eq]; have := HT.out.1; have := HH.out.2.1; omega
      · have hce : (c == p) = false := by simp [hcp]
        have HCP := Lib.hid hcp
        clear hcp
        go_wp2_with (go_at_call 92; refine (kn_eq_call p x c b _ hb1).mono ?_; rintro e w' ⟨rfl, rfl⟩)
        go_roundw
        case rel =>
          refine ⟨_, cnt1, _, HRG1, Lib.hid (fun a z => ?_), HGW1⟩
          rw [HIN.out a z]
          unfold strikeO
          by_cases hax : a = x
          · subst hax
            have : ¬ (F a = some p) := by rw [HF.out]; simpa using HCP.out
            simp [this]
          · simp [del_same_lit, hax]
        case measure => rw [HRG1.out.left_eq, HRG.out.left_eq]; exact HH.out.2.1
theorem OMap.turned {E : TypeId} {w : World} {bm n : Nat} {F : Int → Option Int} {p : Int} {D : DV} (hat : ∀ (a : Int) (z : DV), D.atKey (.int .i64 a) z = (match F a with | some x => .lit (.int .i64 x) | none => z)) (h : w.ownsMap Tryd.prog 3 (plainElem Tryd.prog E) bm n (D.del (.int .i64 p))) : OMap E w bm n (delO F p) := by
  refine ⟨_, h, fun a z => ?_⟩
  unfold delO
  by_cases hap : a = p
  · subst hap
    rw [atKey_del_same]
    simp
  · rw [atKey_del_other (by simpa using hap), hat a z]
    simp [hap]
set_option maxRecDepth 100000 in
set_option maxHeartbeats 1000000 in
theorem forget_any {W : World} {kb nb sb n : Nat} {K : Kn} (h : KAt W kb nb sb n K) {p : Int} (hp : I64 p) :
    Calls Tryd.prog 83 #[.pointer (some ⟨kb, 0, none⟩), .int .i64 p] W fun e w => e = .returned (.tuple #[]) ∧ KAt w kb nb sb n (K.forget p) ∧ Mods (fun k => k = nb ∨ k = sb) W w := by
  obtain ⟨W1, hW1⟩ : ∃ W1, W1 = W.alloc (.cells #[.int .i64 p] 3) := ⟨_, rfl⟩
  have hm1 : Mods None W W1 := by rw [hW1]; exact (Mods.refl _ _).alloc _
  have hb1 : Blk W1 W.heap.size [.int .i64 p] 3 := by rw [hW1]; exact Blk.new W _ _
  have h1 := h.mods hm1 (fun f => f) (fun f => f) (fun f => f)
  obtain ⟨hblk, ⟨Dn, hn1, hn2⟩, ⟨Ds, hs1, hs2⟩, hne, hkn, hks⟩ := h1
  have c0 := hblk.cell (i := 0) rfl
  have c1 := hblk.cell (i := 1) rfl
  have b0 := hb1.cell (i := 0) rfl
  have HN := Lib.hid (And.intro hn1 hn2)
  have HS := Lib.hid (And.intro hs1 hs2)
  have HB := Lib.hid (And.intro hblk (And.intro hne (And.intro hkn hks)))
  have HB1 := Lib.hid hb1
  have HM1 := Lib.hid hm1
  have HP := Lib.hid hp
  have HL := Lib.hid (And.intro h.blk.lt (And.intro h.nums.lt h.same.lt))
  clear hn1 hn2 hs1 hs2 hblk hne hkn hks hb1 hm1 hp h
  go_enter Tryd.func83, Tryd.ntmps83
  go_upto_region 1 with (fail)
  rw [← hW1]
  clear hW1
  go_still_tail 5, (by kernel_rfl)
  change wpList _ _ _ _ _ W1.drew
  go_wp2_with (at_delete; refine wpList_delete_own _ rfl _ _ 115 3 rfl 2 intKeys Tryd.underlying115 _ nb n Dn rfl HN.out.1 _ _ rfl (keyInt HP.out) ?_; intro w2 hown2 hturn2; have HO2 := Lib.hid hown2; have HT2 := Lib.hid (Mods.of_grownBy (S := (· = nb)) hturn2.grown (fun k hk _ => by cases hk; rfl)); clear hown2 hturn2; go_frame; refine Hid.out ?_)
  refine Lib.hid ?_
  have hnes := HB.out.2.1
  have hlk := HL.out
  have hnb1 : W.heap.size ≠ nb := by omega
  have c1 : w2.cell? ⟨kb, 1, none⟩ = some (.map (some sb)) := HT2.out.cellOf (show W1.drew.cell? ⟨kb, 1, none⟩ = some (.map (some sb)) from c1) (fun e => hnes.2.1 e)
  have b0 : w2.cell? ⟨W.heap.size, 0, none⟩ = some (.int .i64 p) := HT2.out.cellOf (show W1.drew.cell? ⟨W.heap.size, 0, none⟩ = some (.int .i64 p) from b0) hnb1
  have HS2 := Lib.hid (show w2.ownsMap Tryd.prog 3 (plainElem Tryd.prog 3) sb n Ds by
    obtain ⟨es, cl, h1, h2⟩ := HS.out.1
    exact ⟨es, cl, HT2.out.blockOf (a := W1.drew) h1 (fun e => hnes.1 e.symm), h2⟩)
  clear c0
  go_upto_region 2 with (fail)
  go_still_tail 5, (by kernel_rfl)
  change wpList _ _ _ _ _ w2.drew
  go_wp2_with (at_delete; refine wpList_delete_own _ rfl _ _ 72 3 rfl 3 intKeys Tryd.underlying72 _ sb n Ds rfl HS2.out _ _ rfl (keyInt HP.out) ?_; intro w3 hown3 hturn3; have HO3 := Lib.hid hown3; have HT3 := Lib.hid (Mods.of_grownBy (S := (· = sb)) hturn3.grown (fun k hk _ => by cases hk; rfl)); clear hown3 hturn3; go_frame; refine Hid.out ?_)
  refine Lib.hid ?_
  have hsb1 : W.heap.size ≠ sb := by omega
  have hmf : ∀ (fn : Go.Fn) (first cap : Array Value) (w : World), (Instr.makeFunc fn first cap).run Tryd.prog w = .ok (.func fn first cap) w := fun _ _ _ _ => rfl
  have c1 : w3.cell? ⟨kb, 1, none⟩ = some (.map (some sb)) := HT3.out.cellOf (show w2.drew.cell? ⟨kb, 1, none⟩ = some (.map (some sb)) from c1) (fun e => hnes.2.2 e)
  have b0 : w3.cell? ⟨W.heap.size, 0, none⟩ = some (.int .i64 p) := HT3.out.cellOf (show w2.drew.cell? ⟨W.heap.size, 0, none⟩ = some (.int .i64 p) from b0) hsb1
  have HD := Lib.hid (delete_any (OMap.turned HS.out.2 HO3.out) b0 hsb1)
  have HNS := Lib.hid (And.intro hnes hlk)
  clear hnes hlk b0 hnb1 hsb1
  go_wp2_with fail
  go_at_call 91
  refine HD.out.mono ?_
  rintro e w4 ⟨rfl, hs4, hm4⟩
  have HS4 := Lib.hid hs4
  have HM4 := Lib.hid hm4
  clear hs4 hm4 c1 hmf
  go_wp2
  go_end0
  have hne := HNS.out.1
  have h23 : Mods (fun k => k = nb ∨ k = sb) W1 w4 := ((Mods.refl _ W1).drew.trans (HT2.out.mono fun _ _ e => Or.inl e)).trans (((Mods.refl _ w2).drew.trans (HT3.out.mono fun _ _ e => Or.inr e)).trans (HM4.out.mono fun _ _ e => Or.inr e))
  have h34 : Mods (fun k => k = sb) w2 w4 := ((Mods.refl _ w2).drew.trans HT3.out).trans HM4.out
  have hm : Mods (fun k => k = nb ∨ k = sb) W w4 := (HM1.out.mono fun _ _ f => f.elim).trans h23
  refine ⟨rfl, ⟨HB.out.1.mods h23 (fun e => e.elim (fun e => hne.2.1 e) (fun e => hne.2.2 e)), (OMap.turned HN.out.2 HO2.out).mods h34 (fun e => hne.1 e), HS4.out, hne, fun q x hq => ?_, fun q x hq => ?_⟩, hm⟩
  · unfold Kn.forget delO at hq
    simp only at hq
    split at hq
    · cases hq
    · exact HB.out.2.2.1 q x hq
  · unfold Kn.forget dropO delO at hq
    simp only at hq
    split at hq
    · cases hq
    · split at hq
      · cases hq
      · exact HB.out.2.2.2 q x hq
end Go.Proofs.YtoajcbfejplfbaaDoor.MidP

/- The law MidRuns walked. Conditions: the steps lie; the tables lie. -/
import Derived.Test.YtoajcbfejplfbaaDoorRsLaw
import Derived.Test.YtoajcbfejplfbaaDoorMidSteps
import Derived.Test.YtoajcbfejplfbaaDoorMidBoth
import Derived.Test.YtoajcbfejplfbaaDoorMidRBoth
namespace Go.Proofs.YtoajcbfejplfbaaDoor.MidP.R
open Go.RowKit Go.Proofs.YtoajcbfejplfbaaDoor.Wo Go.Maps Go.Proofs.YtoajcbfejplfbaaDoor.TreeP Go.Proofs.YtoajcbfejplfbaaDoor.MidP
set_option linter.unusedVariables false
set_option linter.unusedSimpArgs false
theorem run_some (L : List Fm) (given : List Int) (fuel : Nat) : ∃ f x, runC L f given fuel = some x := by
  unfold runC
  by_cases h : codeB L = true
  · simp only [if_pos h]
    obtain ⟨f, x, h⟩ := runM_soon L given fuel
    exact ⟨f, x, h f (Nat.le_refl _)⟩
  · simp only [if_neg h]; exact ⟨0, _, rfl⟩
theorem stepsN_few : (L : List Fm) → (∀ F ∈ L, F.steps.length ≤ 60) → stepsN L ≤ L.length * 60
  | [], _ => Nat.le_refl _
  | F :: r, h => by
    have h1 := h F List.mem_cons_self
    have h2 := stepsN_few r (fun G hG => h G (List.mem_cons_of_mem _ hG))
    rw [stepsN, List.length_cons]
    omega
theorem stepsN_take {L : List Fm} {i : Nat} {F : Fm} (h : L[i]? = some F) : stepsN (L.take (i + 1)) = stepsN (L.take i) + F.steps.length := by
  induction L generalizing i with
  | nil => simp at h
  | cons G r ih =>
    cases i with
    | zero =>
      simp at h
      subst h
      simp [stepsN]
    | succ i =>
      simp at h
      have := ih h
      simp only [List.take_succ_cons, stepsN]
      omega
/-- Numbers that are given are copied behind none. -/
theorem run_copy (ty : TypeId) {w : World} (base : Nat) (v iv : Value) (hown : w.ownsRow base 2 1 v 0 []) (hb : base ≤ w.heap.size) (S : Nat → Prop) (l : List Int) (hi : MidP.InAt w S iv l) (h0 : ∀ n c, iv = .slice none n c → c = 0) (hl : l.length ≤ 1000000) :
    ∃ v' w', (Builtin.append_ #[23, 23] ty #[v, iv]).run Tryd.prog w = .ok v' w' ∧ w'.ownsRow base 2 1 v' l.length (l.map (.int .i64)) ∧ Mods (fun k => v.ownBlock = some k) w w' ∧ ∃ a c, v' = .slice a l.length c := by
  obtain ⟨i0, hi0, hz0, hz1, hz2⟩ := info_parts infoI
  obtain ⟨ia, n, c, rfl, hn, hnc, hcm, hcell⟩ := hi
  cases ia with
  | none =>
    obtain rfl : c = 0 := h0 _ _ rfl
    obtain rfl : n = 0 := by omega
    obtain rfl : l = [] := List.eq_nil_of_length_eq_zero hn.symm
    obtain ⟨a', c', e⟩ := sl_form hown
    exact ⟨v, w, run_append_owned_none (P := Tryd.prog) (w := w) base 23 ty 2 i0 1 Tryd.underlying23 hi0 v 0 [] hown, hown, Mods.refl _ _, a', c', e⟩
  | some ad =>
    obtain ⟨v', w', h1, h2, h3, -, -⟩ := run_append_own_at (P := Tryd.prog) (w := w) base 23 ty 2 i0 (.int .i64 0) 1 8 Tryd.underlying23 hi0 hz0 hz1 hz2 rfl (by decide) v 0 [] hown ad n c (l.map (.int .i64)) (by rw [List.length_map, ← hn, Nat.mul_one]) (fun j u hu => by
        rw [List.getElem?_map] at hu
        obtain ⟨y, hy, rfl⟩ := Option.map_eq_some_iff.1 hu
        obtain ⟨g, o, e1, _, e2⟩ := hcell j y hy
        obtain rfl := Option.some.inj e1
        rw [show (⟨g, o, none⟩ : Addr).add j = ⟨g, o + j, none⟩ by unfold Addr.add; split <;> simp_all]
        exact e2) (fun u hu => by
        obtain ⟨y, _, rfl⟩ := List.mem_map.1 hu
        rfl) (by unfold maxLen; omega) (by omega) hb
    rw [Nat.zero_add, List.nil_append, hn] at h2
    rw [hn] at h1 ⊢
    obtain ⟨a', c', e⟩ := sl_form h2
    exact ⟨v', w', h1, h2, Mods.of_grownBy h3 (fun k hk _ => hk), a', c', e⟩
theorem wpList_wanted {P : Program} {ops : Array Oper} {rest : List Oper} {o : Oper} {a : Go.Act} {Q : Exit → Go.Act → World → Prop} {w : World} (hw : Region.wanted o (yielded ops a.tmps) = true) (h : ∀ K : Go.Act → World → Prop, (∀ a w, wpList P ops Q rest a w → K a w) → o.wp P a w K Q) : wpList P ops Q (o :: rest) a w :=
  wpList_step fun K hK => by rw [if_pos hw]; exact h K hK
theorem wpList_copy_g {ops : Array Oper} {rest : List Oper} {o : Oper} {a : Go.Act} {Q : Exit → Go.Act → World → Prop} {w : World} (hw : Region.wanted o (yielded ops a.tmps) = true) (s x : Operand)
    (ho : o.op = .call { callee := .builtin .append, args := #[s, x], argTypes := #[23, 23] }) (v iv : Value) (hs : a.eval s = v) (hx : a.eval x = iv) {v' : Value} {w' : World}
    (hrun : (Builtin.append_ #[23, 23] o.type #[v, iv]).run Tryd.prog w = .ok v' w') (h : wpList Tryd.prog ops Q rest (a.put o.dst v') w') : wpList Tryd.prog ops Q (o :: rest) a w := by
  refine wpList_wanted hw fun K hK => ?_
  unfold Oper.wp
  simp [execOp, ho, resolve, invoke, builtin, hs, hx, hrun, Result.andThen]
  exact hK _ _ h
set_option maxRecDepth 100000 in
set_option maxHeartbeats 4000000 in
theorem runs_walk (lv gv : Value) (L : List Fm) (given : List Int) (fuel : Int) (op : List UInt8) (a b : Int) (W : World) (hL : FmsAt W None lv L) (hok : ∀ f ∈ L, FmOk f) (hg : MidP.InAt W None gv given) (hg0 : ∀ n c, gv = .slice none n c → c = 0) (hg64 : ∀ x ∈ given, AluP.I64 x) (hfu : AluP.I64 fuel) (ha : AluP.I64 a) (hb : AluP.I64 b) (hFo : FormsAt W) (hOp : OpsAt W) (hX : W.ShapedOpen Tryd.prog) :
    Calls Tryd.prog 3 #[lv, gv, .int .i64 fuel, str op, .int .i64 a, .int .i64 b] W fun e w => e = .returned (.bool true) ∧ Mods None W w := by
  have HC := Lib.hid (code_any L lv W hL)
  obtain ⟨R, hR⟩ : ∃ R, R = smallB L := ⟨_, rfl⟩
  rw [← hR] at HC
  have HR := Lib.hid hR
  have HALL := Lib.hid (fun (w : World) (hm : Mods None W w) => (⟨hL.mods hm (fun _ _ k => k), hFo.mods hm, hOp.mods hm, Mods.shaped hm hX, hg.mods hm (fun _ _ k => k)⟩ : FmsAt w None lv L ∧ FormsAt w ∧ OpsAt w ∧ w.ShapedOpen Tryd.prog ∧ MidP.InAt w None gv given))
  obtain ⟨ga, gn, gc, rfl, hgn, hgc1, hgc2, -⟩ := hg
  obtain ⟨la, lc, rfl, hlc1, hlc2, -⟩ := hL.form
  have HG := Lib.hid (And.intro hg0 (And.intro hg64 (And.intro hgn hok)))
  have HAB := Lib.hid (And.intro ha hb)
  have HFU := Lib.hid hfu
  obtain ⟨n, hn⟩ : ∃ n, n = L.length := ⟨_, rfl⟩
  have HN := Lib.hid hn
  rw [← hn] at HC HALL hlc1 ⊢
  have hops : ((⟨op.toArray⟩ : ByteArray)).size = op.length := by simp [ByteArray.size]
  have HOPS := Lib.hid hops
  clear hL hok hg0 hg64 hFo hOp hX hR hgn hn ha hb hfu hops
  unfold str
  go_enter Tryd.func3, Tryd.ntmps3
  go_wp2_with fail
  go_at_call 6
  refine HC.out.mono ?_
  rintro e w1 ⟨hm1, hC1⟩
  have HM1 := Lib.hid hm1
  clear hm1 HC
  cases R with
  | false =>
    rw [if_neg (by decide)] at hC1
    subst hC1
    go_wp2_with fail
    go_ret
    exact ⟨rfl, HM1.out⟩
  | true =>
    rw [if_pos rfl] at hC1
    obtain ⟨cb, wv, rfl, hcb, hwv⟩ := hC1
    have HP := Lib.hid (small_parts HR.out.symm)
    have HCW := Lib.hid (fun (w : World) (hm : Mods None w1 w) => (⟨hm.cellOf hcb (fun f => f), hwv.mods hm (fun _ _ k => k)⟩ : w.cell? ⟨cb, 0, none⟩ = some (.slice la n lc) ∧ FmsAt w None wv L))
    obtain ⟨wa, wc, rfl, -⟩ := hwv.form
    rw [← HN.out] at hwv HCW ⊢
    clear hcb hwv
    by_cases hg20 : gn ≤ 20
    rotate_left
    · have hgg : (gn : Int) > 20 := by omega
      clear hg20
      go_wp2_with fail
      go_ret
      exact ⟨rfl, HM1.out⟩
    have hgg : ¬ (gn : Int) > 20 := by omega
    by_cases ho20 : op.length ≤ 20
    rotate_left
    · have hog : (op.length : Int) > 20 := by omega
      clear ho20
      go_wp2_with fail
      go_ret
      exact ⟨rfl, HM1.out⟩
    have hog : ¬ (op.length : Int) > 20 := by omega
    have HRB := Lib.hid (rboth_any op a b HAB.out.1 HAB.out.2 w1)
    have HMB := Lib.hid (fun w => mboth_any op a b w)
    unfold pairV str at HRB HMB
    obtain ⟨rn, hrn⟩ : ∃ rn, rn = (bothP op a b).1 := ⟨_, rfl⟩
    obtain ⟨rw_, hrw⟩ : ∃ rw_, rw_ = (bothP op a b).2 := ⟨_, rfl⟩
    rw [← hrn, ← hrw] at HRB HMB
    clear hrn hrw
    go_wp2_with fail
    go_at_call 7
    refine HRB.out.mono ?_
    rintro e w2 ⟨rfl, hm2⟩
    have HM2 := Lib.hid hm2
    clear hm2
    go_wp2_with fail
    go_at_call 8
    refine (HMB.out w2).mono ?_
    rintro e w ⟨rfl, rfl⟩
    have HW2 := Lib.hid (HM1.out.trans HM2.out)
    have hal := HALL.out w2 HW2.out
    have HLB : Hid (∀ f ∈ L, ∀ s ∈ f.steps, MidP.I64 s.label) := Lib.hid (fun f hf s hs => ((HG.out.2.2.2 f hf).steps s hs).nums.2.2.2.2.2.2)
    have HRI := Lib.hid (rightc_any L cb (.slice la n lc) w2 (HCW.out w2 HM2.out).1 hal.1 hal.2.1 hal.2.2.1 HLB.out)
    have HOKR : Hid (RcOk L) := Lib.hid ⟨HP.out.1, fun f hf => ⟨(HP.out.2 f hf).1, (HP.out.2 f hf).2.1⟩, fun f hf => (HG.out.2.2.2 f hf).name, fun f hf s hs => ⟨((HP.out.2 f hf).2.2 s hs).2, ((HG.out.2.2.2 f hf).steps s hs).texts.2, HLB.out f hf s hs⟩⟩
    clear hal
    go_wp2_with fail
    go_at_call 9
    refine HRI.out.mono ?_
    rintro e w3 ⟨rfl, hm3⟩
    have HM3 := Lib.hid (HM2.out.trans hm3)
    have HW3 := Lib.hid (HW2.out.trans hm3)
    have HRR := rrc_any L (.slice wa n wc) w3 (HCW.out w3 HM3.out).2 (HALL.out w3 HW3.out).2.2.2.1 HOKR.out
    rw [refB_eq] at HRR
    have HRR := Lib.hid HRR
    obtain ⟨c, hc⟩ : ∃ c, c = codeB L := ⟨_, rfl⟩
    rw [← hc] at HRR ⊢
    clear hm3 HRI hc
    go_wp2_with fail
    go_at_call 10
    refine HRR.out.mono ?_
    rintro e w4 ⟨rfl, hm4⟩
    have HM4 := Lib.hid (HM3.out.trans hm4)
    have HW4 := Lib.hid (HW3.out.trans hm4)
    have hcc : (c != c) = false := by simp
    clear hm4 HRR
    go_wp2_with fail
    go_loopw [20, 21] (fun sv iv wr => ∃ i : Nat, i ≤ n ∧ iv = .int .i64 i ∧ sv = .int .i64 (stepsN (L.take i) : Nat) ∧ w4 = wr) (fun _ iv _ => (n - intOf iv).toNat)
    case atStart => exact ⟨0, Nat.zero_le _, rfl, rfl, rfl⟩
    case round =>
      obtain ⟨i, hi, rfl, rfl, rfl⟩ := hrel
      obtain ⟨z, hz⟩ : ∃ z, z = stepsN (L.take i) := ⟨_, rfl⟩
      have HZ := Lib.hid hz
      rw [← hz]
      have hz9 : z ≤ 900 := by
        have h1 := stepsN_few (L.take i) (fun F hF => (HP.out.2 F (List.mem_of_mem_take hF)).1)
        rw [List.length_take] at h1
        have h2 := HP.out.1
        have h3 := HN.out
        rw [hz]
        omega
      clear hz
      by_cases hlt : i < n
      · have hil : i < L.length := by have := HN.out; omega
        obtain ⟨F, hF⟩ : ∃ F, L[i]? = some F := ⟨_, List.getElem?_eq_getElem hil⟩
        have hFe : L[i] = F := (List.getElem?_eq_some_iff.1 hF).2
        obtain ⟨fg, fo, ta, tc, sa, sc, he, y0, y1, y2, y3, -⟩ := (HALL.out w4 HW4.out).1.get hil
        subst he
        rw [hFe] at y3
        have hs60 := (HP.out.2 F (List.mem_of_getElem? hF)).1
        have HNX := Lib.hid (stepsN_take hF)
        obtain ⟨sn, hsn⟩ : ∃ sn, sn = F.steps.length := ⟨_, rfl⟩
        have HSN := Lib.hid hsn
        rw [← hsn] at y3 hs60
        have hpi : (i : Int) < (n : Int) := by omega
        clear hF hFe hil hsn y0 y1 y2
        go_wp2_with fail
        exact ⟨⟨i + 1, by omega, by go_num, by rw [HNX.out, ← HZ.out, ← HSN.out]; go_num, by trivial⟩, by simp [intOf]; omega⟩
      · obtain rfl : i = n := by omega
        have hpi : ¬ (i : Int) < (i : Int) := by omega
        have hzz : z = stepsN L := by rw [HZ.out, HN.out, List.take_length]
        have hal := HALL.out w4 HW4.out
        have hst := steps_any L cb (.slice la i lc) w4 (HCW.out w4 HM4.out).1 hal.1 (by rw [← hzz]; omega)
        rw [← hzz] at hst
        have HST := Lib.hid hst
        obtain ⟨fm, hfm⟩ : ∃ fm, fm = min fuel 2000 := ⟨_, rfl⟩
        have HFM := Lib.hid hfm
        clear hal hst hzz
        go_wp2_with fail
        go_at_call 11
        refine HST.out.mono ?_
        rintro e w5 ⟨rfl, hm5⟩
        have HM5 := Lib.hid (HM4.out.trans hm5)
        have HW5 := Lib.hid (HW4.out.trans hm5)
        clear hm5 HST
        obtain ⟨f, x, hx⟩ := run_some L given (min fuel 2000).toNat
        have HX := Lib.hid hx
        have hgl : given.length ≤ 1000000 := by have := HG.out.2.2.1; omega
        have hm6 : Mods None w5 (w5.alloc (.cells #[] 2)) := (Mods.refl _ _).alloc _
        obtain ⟨v6, w6, hrun6, hown6, hmv6, oa, oc, rfl⟩ := run_copy 23 (w := w5.alloc (.cells #[] 2)) w5.heap.size (.slice (some ⟨w5.heap.size, 0, none⟩) 0 0) (.slice ga gn gc) (own_C w5) (by simp) None given (HALL.out _ (HW5.out.trans hm6)).2.2.2.2 HG.out.1 hgl
        have hmw6 : Mods None w5 w6 := hm6.trans' hmv6 (fun k hk hl => by simp only [Value.ownBlock, Option.some.injEq] at hk; omega)
        have HM6 := Lib.hid (HM5.out.trans hmw6)
        have HW6 := Lib.hid (HW5.out.trans hmw6)
        have hi6 : MidP.InAt w6 None (.slice oa given.length oc) given := in_of_row hown6 (fun _ _ f => f)
        have h06 : ∀ n c, Value.slice oa given.length oc = .slice none n c → c = 0 := fun n' c' e => by
          obtain ⟨e1, -, e2⟩ := Value.slice.inj e
          rw [← e2]
          exact own_none hown6 e1
        have hal6 := HALL.out w6 HW6.out
        have hmr := mrun_any HG.out.2.2.2 f given (min fuel 2000) x hx cb (.slice la i lc) (.slice oa given.length oc) w6 (HCW.out w6 HM6.out).1 hal6.1 hal6.2.1 hal6.2.2.1 hi6 h06 hgl (by omega) (by have := HFU.out.1; omega)
        rw [← HG.out.2.2.1] at hmr
        have HMR := Lib.hid hmr
        rw [← HG.out.2.2.1] at hrun6
        have HGL := Lib.hid hgl
        have HO6 := Lib.hid hown6
        have HRUN := Lib.hid hrun6
        clear hown6 hmv6 hmw6 hm6 hi6 h06 hal6 hmr hgl hx hrun6
        go_wp2_with (at_builtin; refine wpList_copy_g (by rfl) (.tmp 91) (.tmp 92) rfl (.slice (some ⟨w5.heap.size, 0, none⟩) 0 0) (.slice ga gn gc) rfl rfl HRUN.out ?_; refine Hid.out ?_)
        refine Lib.hid ?_
        go_wp2_with fail
        go_at_call 13
        refine HMR.out.mono ?_
        rintro e w7 ⟨u7, rfl, hu7, hm7⟩
        have HM7 := Lib.hid (HM6.out.trans hm7)
        have HW7 := Lib.hid (HW6.out.trans hm7)
        have HU7 := Lib.hid hu7
        have hgl := HGL.out
        have hm8 : Mods None w7 (w7.alloc (.cells #[] 2)) := (Mods.refl _ _).alloc _
        obtain ⟨v8, w8, hrun8, hown8, hmv8, ob, obc, rfl⟩ := run_copy 23 (w := w7.alloc (.cells #[] 2)) w7.heap.size (.slice (some ⟨w7.heap.size, 0, none⟩) 0 0) (.slice ga gn gc) (own_C w7) (by simp) None given (HALL.out _ (HW7.out.trans hm8)).2.2.2.2 HG.out.1 hgl
        have hmw8 : Mods None w7 w8 := hm8.trans' hmv8 (fun k hk hl => by simp only [Value.ownBlock, Option.some.injEq] at hk; omega)
        have HM8 := Lib.hid (HM7.out.trans hmw8)
        have HW8 := Lib.hid (HW7.out.trans hmw8)
        have hi8 : MidP.InAt w8 None (.slice ob given.length obc) given := in_of_row hown8 (fun _ _ f => f)
        have hrc := rcode_any HOKR.out HG.out.2.2.2 (fun f hf s hs => ((HP.out.2 f hf).2.2 s hs).1) f given (min fuel 2000) x HX.out (.slice wa i wc) (.slice ob given.length obc) w8 (HCW.out w8 HM8.out).2 (HALL.out w8 HW8.out).2.2.2.1 hi8 HG.out.2.1 (by omega) (by have := HFU.out.1; omega)
        rw [← HG.out.2.2.1] at hrc
        have HRC := Lib.hid hrc
        rw [← HG.out.2.2.1] at hrun8
        have HU8 := Lib.hid (hu7.mods hmw8)
        have HRUN2 := Lib.hid hrun8
        clear hown8 hmv8 hmw8 hm8 hi8 hrc hgl hu7 hm7 HMR HO6 hrun8
        go_wp2_with (at_builtin; refine wpList_copy_g (by rfl) (.tmp 97) (.tmp 98) rfl (.slice (some ⟨w7.heap.size, 0, none⟩) 0 0) (.slice ga gn gc) rfl rfl HRUN2.out ?_; refine Hid.out ?_)
        refine Lib.hid ?_
        go_wp2_with fail
        go_at_call 14
        refine HRC.out.mono ?_
        rintro e w9 ⟨u9, rfl, hu9, hm9⟩
        have HW9 := Lib.hid (HW8.out.trans hm9)
        obtain ⟨p1, c1, rfl, i1, l1, -⟩ := HU8.out.mods hm9
        obtain ⟨p2, c2, rfl, i2, l2, -⟩ := hu9
        have HSE := Lib.hid (same_end x.1 x.2.1 p1 p2 _ _ c1 c2 x.2.2 w9 i1 i2 (by omega))
        obtain ⟨xa, xb, xo⟩ := x
        obtain ⟨on, hon⟩ : ∃ on, on = xo.length := ⟨_, rfl⟩
        simp only at HSE ⊢
        rw [← hon] at HSE ⊢
        clear i1 l1 i2 l2 hm9 HRC HU8 HU7 hon
        go_wp2_with fail
        go_at_call 12
        refine HSE.out.mono ?_
        rintro e w10 ⟨rfl, hm10⟩
        go_wp2_with fail
        go_ret
        exact ⟨rfl, HW9.out.trans hm10⟩
end Go.Proofs.YtoajcbfejplfbaaDoor.MidP.R

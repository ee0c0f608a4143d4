/- Programs are written. Conditions: what is read of the package's variables lies. -/
import Derived.Test.YtinbahmpifokaaaDoorTreeSts
import Derived.Test.YtinbahmpifokaaaDoorTreeFn
import Derived.Test.YtinbahmpifokaaaDoorSteps
import Derived.Deep.RegionHeld3
namespace Go.Proofs.YtinbahmpifokaaaDoor.TreeP
open Go.RowKit Go.Proofs.YtinbahmpifokaaaDoor.Wo
set_option linter.unusedVariables false
set_option linter.unusedSimpArgs false
def FnOk (x : Fn) : Prop := (∀ p ∈ x.params, p.2 = 1 ∨ p.2 = 2) ∧ NumSts x.body
theorem FnAt.len {W : World} {S : Nat → Prop} {s : Fn} {cs : List Value} (h : FnAt W S s cs) : cs.length = 4 := by
  obtain ⟨_, _, _, _, _, _, rfl⟩ := h.shape
  rfl
theorem FnsAt.at_ {W : World} {S : Nat → Prop} : {l : List Fn} → {vs : List Value} → FnsAt W S l vs → (i : Nat) → (s : Fn) → l[i]? = some s → ∃ cs, FnAt W S s cs ∧ ∀ j c, cs[j]? = some c → vs[i * 4 + j]? = some c
  | [], vs, h, i, e, he => by simp at he
  | a :: r, vs, h, i, e, he => by
    obtain ⟨x, r2, rfl, h1, h2⟩ := h
    have h4 := h1.len
    cases i with
    | zero =>
      simp only [List.getElem?_cons_zero, Option.some.injEq] at he
      subst he
      refine ⟨x, h1, fun j c hj => ?_⟩
      rw [Nat.zero_mul, Nat.zero_add, List.getElem?_append_left (List.getElem?_eq_some_iff.1 hj).1]
      exact hj
    | succ i =>
      obtain ⟨cs, h3, h5⟩ := FnsAt.at_ h2 i e (by simpa using he)
      refine ⟨cs, h3, fun j c hj => ?_⟩
      rw [List.getElem?_append_right (by omega), show (i + 1) * 4 + j - x.length = i * 4 + j by omega]
      exact h5 j c hj
theorem pcells_at : (l : List (List UInt8 × Int)) → (i : Nat) → (p : List UInt8 × Int) → l[i]? = some p → (pcells l)[i * 2]? = some (str p.1) ∧ (pcells l)[i * 2 + 1]? = some (.int .i64 p.2)
  | [], i, p, h => by simp at h
  | (n, t) :: r, 0, p, h => by
    simp only [List.getElem?_cons_zero, Option.some.injEq] at h
    subst h
    exact ⟨rfl, rfl⟩
  | (n, t) :: r, i + 1, p, h => by
    have := pcells_at r i p (by simpa using h)
    simp only [pcells]
    rw [show (i + 1) * 2 = i * 2 + 2 by omega]
    exact this
theorem und3 : Tryd.prog.underlying 61 = some (.array 3 9) := by kernel_rfl
theorem ty_1 (W : World) : Sem.run Tryd.prog (Instr.index 61 (.agg #[.string ⟨#[]⟩, .string ⟨#[105, 110, 116]⟩, .string ⟨#[97, 114, 114]⟩]) (.int .i64 1)) W = .ok (.string ⟨#[105, 110, 116]⟩) W := by
  simp [Instr.index, run_underlying und3, asIntOf, go_sem]
theorem ty_2 (W : World) : Sem.run Tryd.prog (Instr.index 61 (.agg #[.string ⟨#[]⟩, .string ⟨#[105, 110, 116]⟩, .string ⟨#[97, 114, 114]⟩]) (.int .i64 2)) W = .ok (.string ⟨#[97, 114, 114]⟩) W := by
  simp [Instr.index, run_underlying und3, asIntOf, go_sem]
theorem fnB_le : (l : List Fn) → (i : Nat) → (s : Fn) → l[i]? = some s → (printB (l.take i)).length + (fnB s).length ≤ (printB l).length
  | [], i, s, h => by simp at h
  | a :: r, i, s, h => by
    cases i with
    | zero =>
      simp only [List.getElem?_cons_zero, Option.some.injEq] at h
      subst h
      simp [printB]
    | succ i =>
      have := fnB_le r i s (by simpa using h)
      simp only [printB, List.take_succ_cons, List.map_cons, List.flatten_cons, List.length_append] at this ⊢
      omega
theorem printB_take (l : List Fn) (i : Nat) (s : Fn) (h : l[i]? = some s) : printB (l.take (i + 1)) = printB (l.take i) ++ fnB s := by
  rw [List.take_add_one, h]
  simp [printB]
/-- Where the outer loop stands. -/
def PnAt (W : World) (l : List Fn) (b : Nat) (iv : Value) (wr : World) : Prop :=
  ∃ i : Nat, i ≤ l.length ∧ iv = .int .i64 i ∧ Bld W wr b (printB (l.take i))
set_option maxRecDepth 100000 in
set_option maxHeartbeats 8000000 in
theorem print_any (l : List Fn) (W : World) (x : Value) (vs : List Value) (hP : Prn W) (hn : ∀ s ∈ l, FnOk s) (hrow : RowAt W None 52 4 x l.length vs) (hst : FnsAt W None l vs) (hlen : (printB l).length ≤ 900000000) :
    Calls Tryd.prog 8 #[x] W fun e w => e = .returned (.string ⟨(printB l).toArray⟩) ∧ Mods None W w := by
  have HP := Lib.hid hP
  have HA := Lib.hid (fun (i : Nat) (s : Fn) (hs : l[i]? = some s) => (⟨hn s (List.mem_of_getElem? hs), fnB_le l i s hs, hst.at_ i s hs⟩ : FnOk s ∧ (printB (l.take i)).length + (fnB s).length ≤ (printB l).length ∧ ∃ cs, FnAt W None s cs ∧ ∀ j c, cs[j]? = some c → vs[i * 4 + j]? = some c))
  obtain ⟨n, hln⟩ : ∃ n, n = l.length := ⟨_, rfl⟩
  have hrow' := hrow.1
  rw [← hln] at hrow'
  obtain ⟨xa, xc, rfl⟩ := lex_form hrow'
  have hxa : 0 < n → ∃ q, xa = some ⟨q, 0, none⟩ ∧ n ≤ xc ∧ xc ≤ 9223372036854775807 ∧ ∀ j c, vs[j]? = some c → W.cell? ⟨q, j, none⟩ = some c := by
    intro h0
    rcases hrow'.2 with ⟨hv, hz⟩ | ⟨g2, cap2, cur2, hv, _, _, h3, h4, _⟩
    · omega
    · cases hv
      refine ⟨g2, rfl, h3, by unfold maxLen at h4; omega, fun j c hj => ?_⟩
      have := hrow'.cells (g := g2) rfl j c hj
      cases j with
      | zero => exact this
      | succ j => simpa [Addr.add] using this
  have HXA := Lib.hid hxa
  have HN := Lib.hid hln
  have HB0 := Lib.hid (⟨Lib.IsBuilderF.of (Lib.fresh_isBuilder 57 5 W), (Mods.refl None W).alloc _⟩ : Bld W (W.alloc (.cells #[.pointer none, .slice none 0 0] 57)) W.heap.size [])
  obtain ⟨i0, hi, hz0, hz1, hz2⟩ := info_parts string_info
  have HI := Lib.hid (⟨hi, hz0, hz1, hz2⟩ : _ ∧ _ ∧ _ ∧ _)
  clear hP hn hrow hst hrow' hxa hln hi hz0 hz1 hz2
  go_enter Tryd.func8, Tryd.ntmps8
  go_wp2_with fail
  obtain ⟨b, hb⟩ : ∃ b, b = W.heap.size := ⟨_, rfl⟩
  rw [← hb] at HB0 ⊢
  clear hb
  go_loopw [11] (fun iv wr => PnAt W l b iv wr) (fun iv _ => (n - intOf iv).toNat)
  case atStart => exact ⟨0, Nat.zero_le _, rfl, HB0.out⟩
  case round =>
    clear HB0
    obtain ⟨i, hi, rfl, hbr⟩ := hrel
    have HB := Lib.hid hbr
    clear hbr
    by_cases hlt : i < n
    · obtain ⟨q, rfl, hnc, hxc, hcells⟩ := HXA.out (by omega)
      obtain ⟨s, hs⟩ : ∃ s, l[i]? = some s := ⟨l[i]'(by have := HN.out; omega), List.getElem?_eq_getElem _⟩
      obtain ⟨hok, hle, cs, hst, hvs⟩ := HA.out i s hs
      have HS := Lib.hid hs
      have hii : (i : Int) < (n : Int) := by omega
      obtain ⟨name, at_, ps, body⟩ := s
      obtain ⟨p, q2, vq, rfl, hrp, hrq, hsq⟩ := hst
      obtain ⟨pa, pc, rfl⟩ := lex_form hrp.1
      obtain ⟨qa, qc, rfl⟩ := lex_form hrq.1
      simp only at hok hrp hrq hsq hle
      have hz0 : wr.cell? ⟨q, i * 4, none⟩ = some (.string ⟨name.toArray⟩) := HB.out.mods.cellOf (hcells _ _ (hvs 0 _ rfl)) (fun f => f)
      have hz1 : wr.cell? ⟨q, i * 4 + 1, none⟩ = some (.int .i64 at_) := HB.out.mods.cellOf (hcells _ _ (hvs 1 _ rfl)) (fun f => f)
      have hz2 : wr.cell? ⟨q, i * 4 + 2, none⟩ = some (.slice pa ps.length pc) := HB.out.mods.cellOf (hcells _ _ (hvs 2 _ rfl)) (fun f => f)
      have hz3 : wr.cell? ⟨q, i * 4 + 3, none⟩ = some (.slice qa body.length qc) := HB.out.mods.cellOf (hcells _ _ (hvs 3 _ rfl)) (fun f => f)
      clear hs hvs hcells
      have hxp : 0 < ps.length → ∃ q, pa = some ⟨q, 0, none⟩ ∧ ps.length ≤ pc ∧ pc ≤ 9223372036854775807 ∧ ∀ j c, (pcells ps)[j]? = some c → W.cell? ⟨q, j, none⟩ = some c := by
        intro h0
        rcases hrp.1.2 with ⟨hv, hz⟩ | ⟨g2, cap2, cur2, hv, _, _, h3, h4, _⟩
        · omega
        · cases hv
          refine ⟨g2, rfl, h3, by unfold maxLen at h4; omega, fun j c hj => ?_⟩
          have := hrp.1.cells (g := g2) rfl j c hj
          cases j with
          | zero => exact this
          | succ j => simpa [Addr.add] using this
      have HXP := Lib.hid hxp
      have HOK := Lib.hid hok
      have HLE := Lib.hid hle
      have HRQ := Lib.hid hrq
      have HSQ := Lib.hid hsq
      clear hxp hrp hok hle hrq hsq
      go_wp2_with fail
      have HB1 := Lib.hid (HB.out.quiet ((Mods.refl None wr).alloc (.cells #[.string ⟨name.toArray⟩, .int .i64 at_, .slice pa ps.length pc, .slice qa body.length qc] 52)))
      have HC1 := Lib.hid (Blk.new wr #[.string ⟨name.toArray⟩, .int .i64 at_, .slice pa ps.length pc, .slice qa body.length qc] 52)
      have hbl := bld_lt HB.out
      obtain ⟨k5, hk5⟩ : ∃ k, k = wr.heap.size := ⟨_, rfl⟩
      have hkb : Hid (k5 ≠ b) := Lib.hid (by omega)
      obtain ⟨W1, hW1⟩ : ∃ q, q = wr.alloc (.cells #[.string ⟨name.toArray⟩, .int .i64 at_, .slice pa ps.length pc, .slice qa body.length qc] 52) := ⟨_, rfl⟩
      rw [← hW1] at HB1 HC1 ⊢
      rw [← hk5] at HC1 ⊢
      clear hW1 hk5 hbl HB hz0 hz1 hz2 hz3
      obtain ⟨L, hL⟩ : ∃ L, L = ps.map paramB := ⟨_, rfl⟩
      have HLN := Lib.hid (show L.length = ps.length by rw [hL, List.length_map])
      have HLE2 := HLE.out
      simp only [fnB, List.length_append, List.length_cons, List.length_nil] at HLE2
      rw [← hL] at HLE2
      have HJ := Lib.hid (join_many [44, 32] (by decide) L)
      have HJL := Lib.hid (show (Lib.join L [44, 32]).length ≤ 900000000 by omega)
      have HLA := Lib.hid (fun (j : Nat) (p : List UInt8 × Int) (hp : ps[j]? = some p) => by
        have h1 : L[j]? = some (paramB p) := by rw [hL, List.getElem?_map, hp]; rfl
        exact (⟨h1, join_ge [44, 32] L j _ h1⟩ : L[j]? = some (paramB p) ∧ (paramB p).length ≤ (Lib.join L [44, 32]).length))
      have HFB := Lib.hid HLE2
      have HLP := Lib.hid hL
      clear HLE HLE2 hL
      go_loopw [6, 18] (fun lv jv wr => TxAt W1 L lv jv wr) (fun _ jv _ => (ps.length - intOf jv).toNat)
      case atStart => exact ⟨0, Nat.zero_le _, rfl, World.ownsRow_nil _ _ _ _, Mods.refl _ _⟩
      case round =>
        obtain ⟨j, hj, rfl, hown, hm⟩ := hrel
        have HO := Lib.hid hown
        have HM := Lib.hid hm
        clear hown hm
        have hLl := HLN.out
        by_cases hjl : j < ps.length
        · obtain ⟨qp, rfl, hpc1, hpc2, hpcs⟩ := HXP.out (by omega)
          obtain ⟨pr, hpr⟩ : ∃ pr, ps[j]? = some pr := ⟨ps[j], List.getElem?_eq_getElem hjl⟩
          obtain ⟨hLj, hLl2⟩ := HLA.out j pr hpr
          have hty := HOK.out.1 pr (List.mem_of_getElem? hpr)
          have hpz := pcells_at ps j pr hpr
          obtain ⟨pn, pt⟩ := pr
          simp only at hpz hty
          have hp0 : wr.cell? ⟨qp, j * 2, none⟩ = some (.string ⟨pn.toArray⟩) := HM.out.cellOf (HB1.out.mods.cellOf (hpcs _ _ hpz.1) (fun f => f)) (fun f => f)
          have hp1 : wr.cell? ⟨qp, j * 2 + 1, none⟩ = some (.int .i64 pt) := HM.out.cellOf (HB1.out.mods.cellOf (hpcs _ _ hpz.2) (fun f => f)) (fun f => f)
          have hji : (j : Int) < (ps.length : Int) := by omega
          have hjb : j ≤ 1000000000 := by have := HJ.out; have := HJL.out; omega
          have hnl : pn.length ≤ 900000000 := by have := HJL.out; unfold paramB at hLl2; simp only [List.length_append] at hLl2; omega
          have HLj := Lib.hid hLj
          obtain ⟨oa, oc, rfl⟩ := lex_form HO.out
          clear hLj hLl2 hpz hpcs hpr hLl
          rcases hty with rfl | rfl
          · have hix := fun (W9 : World) => ty_1 W9
            have hq1 : ¬ 9223372036854775807 < pn.length + 2 := by omega
            have hq2 : ¬ 9223372036854775807 < pn.length + 2 + 3 := by omega
            go_wp2_with fail
            have HO4 := Lib.hid ((HO.out.alloc (.cells #[.string ⟨pn.toArray⟩, .int .i64 1] 60)).alloc (.cells #[.string ((⟨pn.toArray⟩ : ByteArray) ++ ⟨#[58, 32]⟩ ++ ⟨#[105, 110, 116]⟩)] 9))
            have hsz4 : Hid (W1.heap.size ≤ ((wr.alloc (.cells #[.string ⟨pn.toArray⟩, .int .i64 1] 60)).alloc (.cells #[.string ((⟨pn.toArray⟩ : ByteArray) ++ ⟨#[58, 32]⟩ ++ ⟨#[105, 110, 116]⟩)] 9)).heap.size) := Lib.hid (by have := HM.out.size; simp; omega)
            go_region_law (refine step_append_at rfl (.tmp 22) (.tmp 31) 58 rfl W1.heap.size 9 i0 _ 1 16 Tryd.underlying58 HI.out.1 HI.out.2.1 HI.out.2.2.1 HI.out.2.2.2 rfl (by decide) (.slice oa j oc) j ((L.take j).map str) (by simp [Act.eval, Act.put]) HO4.out ⟨(wr.alloc (.cells #[.string ⟨pn.toArray⟩, .int .i64 1] 60)).heap.size, 0, none⟩ 1 1 [.string ((⟨pn.toArray⟩ : ByteArray) ++ ⟨#[58, 32]⟩ ++ ⟨#[105, 110, 116]⟩)] (by simp [Act.eval, Act.put]) rfl (one_new (wr.alloc (.cells #[.string ⟨pn.toArray⟩, .int .i64 1] 60)) _ _) (str_one _) (by unfold maxLen; omega) (by omega) hsz4.out ?_; intro v' w5 hown hgrow hloc)
            all_goals
              obtain ⟨ra, rc, rfl⟩ := lex_form hown
              have HOW := Lib.hid hown
              have hm5 : Mods None W1 w5 := ((HM.out.alloc (.cells #[.string ⟨pn.toArray⟩, .int .i64 1] 60)).alloc (.cells #[.string ((⟨pn.toArray⟩ : ByteArray) ++ ⟨#[58, 32]⟩ ++ ⟨#[105, 110, 116]⟩)] 9)).drew.trans' (Mods.of_grownBy hgrow (S := fun k => (Value.slice oa j oc).ownBlock = some k) (fun k hk _ => hk)) (fun k hk hw => by have := (HO.out.lt k hk).1; omega)
              have HM5 := Lib.hid hm5
              clear hown hgrow hloc hm5 hix hq1 hq2 hp0 hp1
              go_wp2_with fail
              refine ⟨⟨j + 1, by have := HLN.out; omega, by go_num, ?_, HM5.out⟩, by simp [intOf]; omega⟩
              have htk : (L.take (j + 1)).map str = (L.take j).map str ++ [.string ((⟨pn.toArray⟩ : ByteArray) ++ ⟨#[58, 32]⟩ ++ ⟨#[105, 110, 116]⟩)] := by
                rw [List.take_add_one, HLj.out, Option.toList_some, List.map_append]
                simp [str, paramB, tyB, ba_append]
              rw [htk]
              exact HOW.out
          · have hix := fun (W9 : World) => ty_2 W9
            have hq1 : ¬ 9223372036854775807 < pn.length + 2 := by omega
            have hq2 : ¬ 9223372036854775807 < pn.length + 2 + 3 := by omega
            go_wp2_with fail
            have HO4 := Lib.hid ((HO.out.alloc (.cells #[.string ⟨pn.toArray⟩, .int .i64 2] 60)).alloc (.cells #[.string ((⟨pn.toArray⟩ : ByteArray) ++ ⟨#[58, 32]⟩ ++ ⟨#[97, 114, 114]⟩)] 9))
            have hsz4 : Hid (W1.heap.size ≤ ((wr.alloc (.cells #[.string ⟨pn.toArray⟩, .int .i64 2] 60)).alloc (.cells #[.string ((⟨pn.toArray⟩ : ByteArray) ++ ⟨#[58, 32]⟩ ++ ⟨#[97, 114, 114]⟩)] 9)).heap.size) := Lib.hid (by have := HM.out.size; simp; omega)
            go_region_law (refine step_append_at rfl (.tmp 22) (.tmp 31) 58 rfl W1.heap.size 9 i0 _ 1 16 Tryd.underlying58 HI.out.1 HI.out.2.1 HI.out.2.2.1 HI.out.2.2.2 rfl (by decide) (.slice oa j oc) j ((L.take j).map str) (by simp [Act.eval, Act.put]) HO4.out ⟨(wr.alloc (.cells #[.string ⟨pn.toArray⟩, .int .i64 2] 60)).heap.size, 0, none⟩ 1 1 [.string ((⟨pn.toArray⟩ : ByteArray) ++ ⟨#[58, 32]⟩ ++ ⟨#[97, 114, 114]⟩)] (by simp [Act.eval, Act.put]) rfl (one_new (wr.alloc (.cells #[.string ⟨pn.toArray⟩, .int .i64 2] 60)) _ _) (str_one _) (by unfold maxLen; omega) (by omega) hsz4.out ?_; intro v' w5 hown hgrow hloc)
            all_goals
              obtain ⟨ra, rc, rfl⟩ := lex_form hown
              have HOW := Lib.hid hown
              have hm5 : Mods None W1 w5 := ((HM.out.alloc (.cells #[.string ⟨pn.toArray⟩, .int .i64 2] 60)).alloc (.cells #[.string ((⟨pn.toArray⟩ : ByteArray) ++ ⟨#[58, 32]⟩ ++ ⟨#[97, 114, 114]⟩)] 9)).drew.trans' (Mods.of_grownBy hgrow (S := fun k => (Value.slice oa j oc).ownBlock = some k) (fun k hk _ => hk)) (fun k hk hw => by have := (HO.out.lt k hk).1; omega)
              have HM5 := Lib.hid hm5
              clear hown hgrow hloc hm5 hix hq1 hq2 hp0 hp1
              go_wp2_with fail
              refine ⟨⟨j + 1, by have := HLN.out; omega, by go_num, ?_, HM5.out⟩, by simp [intOf]; omega⟩
              have htk : (L.take (j + 1)).map str = (L.take j).map str ++ [.string ((⟨pn.toArray⟩ : ByteArray) ++ ⟨#[58, 32]⟩ ++ ⟨#[97, 114, 114]⟩)] := by
                rw [List.take_add_one, HLj.out, Option.toList_some, List.map_append]
                simp [str, paramB, tyB, ba_append]
              rw [htk]
              exact HOW.out
        · obtain rfl : j = L.length := by omega
          have hji : ¬ (L.length : Int) < (ps.length : Int) := by omega
          have HO5 := Lib.hid (show wr.ownsRow W1.heap.size 9 1 _ L.length (L.map str) from by have := HO.out; rwa [List.take_length] at this)
          obtain ⟨J, hJ⟩ : ∃ J, J = Lib.join L [44, 32] := ⟨_, rfl⟩
          have HJN := Lib.hid (fun (w : World) (hm : Mods None wr w) => join_any L _ HO5.out (by have := HJ.out; have := HJL.out; omega) (by have := HJL.out; omega) w hm)
          have HJE := Lib.hid hJ
          have hfb := HFB.out
          rw [← hJ] at HJN hfb
          have HB2 := Lib.hid (HB1.out.quiet HM.out)
          have HC2 := Lib.hid (HC1.out.mods HM.out (fun f => f))
          have c0 := HC2.out.cell (i := 0) rfl
          obtain ⟨oa, oc, rfl⟩ := lex_form HO5.out
          have hq0 : ¬ 9223372036854775807 < 3 + name.length := by omega
          have hq1 : ¬ 9223372036854775807 < 3 + name.length + 1 := by omega
          have hq2 : ¬ 9223372036854775807 < 3 + name.length + 1 + J.length := by omega
          have hq3 : ¬ 9223372036854775807 < 3 + name.length + 1 + J.length + 4 := by omega
          clear hJ hLl HB1 HC1 HO
          go_wp2_with fail
          go_region_held3 (fun w' => Hid (Blk w' k5 [.string ⟨name.toArray⟩, .int .i64 at_, .slice pa ps.length pc, .slice qa body.length qc] 52) ∧ w'.cell? ⟨k5, 0, none⟩ = some (.string ⟨name.toArray⟩))
            (first
              | exact ⟨Lib.hid HC2.out.drew, c0⟩
              | assumption
              | (go_split_ands; exact ⟨Lib.hid (Blk.mods hm2 (Hid.out ‹Hid (Blk _ k5 _ _)›) (fun f => f)), hm2.cellOf ‹_› (fun f => f)⟩)
              | (go_split_ands; exact ⟨Lib.hid (blk_kept hk3 (Hid.out ‹Hid (Blk _ k5 _ _)›) hkb.out (by decide)), (blk_kept hk3 (Hid.out ‹Hid (Blk _ k5 _ _)›) hkb.out (by decide)).cell (i := 0) rfl⟩))
            ((first
              | (go_at_call 15; go_split_ands; refine (write_of ((HB2.out.quiet (Mods.refl None wr).drew).quiet hm2) _ ([102, 110, 32] ++ name ++ [40] ++ J ++ [41, 32, 123, 10]) (by first | rfl | simp [ba_append]) (by simp only [List.length_append, List.length_cons, List.length_nil]; omega)).mono ?_; rintro e w3 ⟨rfl, hb3, hk3⟩)
              | (go_at_call 16; go_split_ands; refine (HJN.out wr.drew (Mods.refl None wr).drew).mono ?_; rintro e w2 ⟨rfl, hm2⟩)))
          all_goals
            go_split_ands
            have HB3 := Lib.hid hb3
            have HC3 := Lib.hid (blk_kept hk3 ((HC2.out.drew).mods hm2 (fun f => f)) hkb.out (by decide))
            have c3 := HC3.out.cell (i := 3) rfl
            clear hb3 hk3 hm2
            go_wp2_with fail
            go_at_call 17
            refine (stsc_of (sts_any body) HB3.out HP.out HOK.out.2 HRQ.out HSQ.out _ sp ?_ ?_).mono ?_
            · rfl
            · have hsp2 : sp.length = 2 := rfl
              simp only [List.length_append, List.length_cons, List.length_nil]
              omega
            rintro e w4 ⟨rfl, hb4, hk4⟩
            have HB4 := Lib.hid hb4
            clear hb4 hk4 HB3 HC3 c3
            go_wp2_with fail
            go_at_call 15
            refine (write_of HB4.out _ [125, 10] ?_ ?_).mono ?_
            · rfl
            · simp only [List.length_append, List.length_cons, List.length_nil]
              omega
            rintro e w5 ⟨rfl, hb5, hk5⟩
            have HB5 := Lib.hid hb5
            clear hb5 hk5 HB4
            go_wp2_with fail
            refine ⟨⟨i + 1, by have := HN.out; omega, by go_num, ?_⟩, by simp [intOf]; omega⟩
            have h9 := HB5.out
            rw [printB_take l i _ HS.out]
            have hpj : Lib.join (ps.map paramB) [44, 32] = J := by rw [HJE.out, HLP.out]
            simpa [fnB, hpj, List.append_assoc] using h9
    · obtain rfl : i = l.length := by have := HN.out; omega
      have hii : ¬ (l.length : Int) < (n : Int) := by omega
      have HC := Lib.hid (Tryd.Builder_String_any_k W.heap.size b (printB l) wr (by have := HB.out.blt; rwa [List.take_length] at this) HB.out.mods.size)
      go_wp2_with fail
      go_at_call 18
      refine HC.out.mono ?_
      rintro e w ⟨rfl, h1, h2, h3⟩
      have hm : Mods None W w := ⟨h2.os.trans HB.out.mods.os, h2.output.trans HB.out.mods.output, Nat.le_trans HB.out.mods.size h2.size, fun k hk hn => (h2.block k hk).trans (HB.out.mods.block k hk hn)⟩
      clear h1 h2 h3
      go_wp2
      go_ret
      exact ⟨rfl, hm⟩
end Go.Proofs.YtinbahmpifokaaaDoor.TreeP

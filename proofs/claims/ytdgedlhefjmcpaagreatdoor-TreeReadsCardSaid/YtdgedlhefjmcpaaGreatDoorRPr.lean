/- The document's PrintProgram. Conditions: the powers of ten and a number of the library's own lie. -/
import Derived.Test.YtdgedlhefjmcpaaGreatDoorRLn
import Derived.Test.YtdgedlhefjmcpaaGreatDoorTreeBck
namespace Go.Proofs.YtdgedlhefjmcpaaGreatDoor.TreeP.R
open Go.RowKit Go.Proofs.YtdgedlhefjmcpaaGreatDoor.Wo Go.Proofs.YtdgedlhefjmcpaaGreatDoor.TreeP
set_option linter.unusedVariables false
set_option linter.unusedSimpArgs false
theorem ty_1 (w : World) : Sem.run Tryz.prog (Instr.index 115 (.agg #[.string ⟨#[]⟩, .string ⟨#[58, 32, 105, 110, 116]⟩, .string ⟨#[58, 32, 97, 114, 114]⟩]) (.int .i64 1)) w = .ok (.string ⟨([58, 32] ++ tyB 1).toArray⟩) w := by kernel_rfl
theorem ty_2 (w : World) : Sem.run Tryz.prog (Instr.index 115 (.agg #[.string ⟨#[]⟩, .string ⟨#[58, 32, 105, 110, 116]⟩, .string ⟨#[58, 32, 97, 114, 114]⟩]) (.int .i64 2)) w = .ok (.string ⟨([58, 32] ++ tyB 2).toArray⟩) w := by kernel_rfl
theorem pcells_get : (l : List (List UInt8 × Int)) → (j : Nat) → (p : List UInt8 × Int) → l[j]? = some p → (pcells l)[j * 2]? = some (str p.1) ∧ (pcells l)[j * 2 + 1]? = some (.int .i64 p.2)
  | [], j, p, h => by simp at h
  | (n, t) :: r, 0, p, h => by
    simp only [List.getElem?_cons_zero, Option.some.injEq] at h
    subst h
    exact ⟨rfl, rfl⟩
  | (n, t) :: r, j + 1, p, h => by
    have := pcells_get r j p (by simpa using h)
    rw [show (j + 1) * 2 = j * 2 + 1 + 1 by omega]
    simpa [pcells] using this
theorem row_at {W : World} {B : Nat} {e : TypeId} {size n xc : Nat} {xa : Option Addr} {vs : List Value} (h : W.ownsRow B e size (.slice xa n xc) n vs) (h0 : 0 < n) :
    ∃ q, xa = some ⟨q, 0, none⟩ ∧ n ≤ xc ∧ xc ≤ 9223372036854775807 ∧ ∀ j c, vs[j]? = some c → W.cell? ⟨q, j, none⟩ = some c := by
  rcases h.2 with ⟨hv, hz⟩ | ⟨g2, cap2, cur2, hv, _, _, h3, h4, _⟩
  · omega
  · cases hv
    refine ⟨g2, rfl, h3, by unfold maxLen at h4; omega, fun j c hj => ?_⟩
    have := h.cells (g := g2) rfl j c hj
    cases j with
    | zero => exact this
    | succ j => simpa [Addr.add] using this
theorem printB_append (l : List Fn) (f : Fn) : printB (l ++ [f]) = printB l ++ fnB f := by simp [printB]
theorem printB_take : (l : List Fn) → (i : Nat) → (printB (l.take i)).length ≤ (printB l).length
  | [], i => by simp
  | a :: r, 0 => by simp [printB]
  | a :: r, i + 1 => by
    have := printB_take r i
    simp only [printB, List.take_succ_cons, List.map_cons, List.flatten_cons, List.length_append] at this ⊢
    omega
set_option maxRecDepth 100000 in
set_option maxHeartbeats 8000000 in
theorem pp_any (L : List Fn) (v : Value) (vs : List Value) (W : World) (hP : TxR W) (hp : Prog L) (hr : RowAt W None 33 4 v L.length vs) (hf : FnsAt W None L vs) :
    Calls Tryz.prog 26 #[v] W fun e w => e = .returned (.string ⟨(printB L).toArray⟩) ∧ Mods None W w := by
  have HP := Lib.hid hP
  have hpl := hp.len
  have HA := Lib.hid (fun (i : Nat) (f : Fn) (hi : L[i]? = some f) => (⟨hp.fit f (List.mem_of_getElem? hi), hf.at_ i f hi⟩ : FitF f ∧ ∃ cs, FnAt W None f cs ∧ ∀ j c, cs[j]? = some c → vs[i * 4 + j]? = some c))
  have HTK := Lib.hid (printB_take L)
  obtain ⟨n, hln⟩ : ∃ n, n = L.length := ⟨_, rfl⟩
  have hrow' := hr.1
  rw [← hln] at hrow'
  obtain ⟨xa, xc, rfl⟩ := lex_form hrow'
  have HXA := Lib.hid (row_at hrow')
  have HN := Lib.hid hln
  have HM0 := Lib.hid (Mods.refl None W)
  clear hP hp hr hf hrow' hln
  go_enter Tryz.func26, Tryz.ntmps26
  go_wp2_with fail
  go_loopw [3, 5, 6, 7, 10] (fun ov _ _ _ iv wr => ∃ i : Nat, i ≤ L.length ∧ ov = .string ⟨(printB (L.take i)).toArray⟩ ∧ iv = .int .i64 i ∧ Hid (Mods None W wr)) (fun _ _ _ _ iv _ => (n - intOf iv).toNat)
  case atStart => exact ⟨0, Nat.zero_le _, by simp [printB], rfl, HM0⟩
  case round =>
    obtain ⟨i, hi, rfl, rfl, HM⟩ := hrel
    by_cases hlt : i < n
    · obtain ⟨q, rfl, hnc, hxc, hcells⟩ := HXA.out (by omega)
      obtain ⟨f, hs⟩ : ∃ f, L[i]? = some f := ⟨L[i]'(by have := HN.out; omega), List.getElem?_eq_getElem _⟩
      obtain ⟨⟨-, hfp, hfb⟩, cs, ⟨pv, qv, vq, rfl, hrp, hrq, hsq⟩, hvs⟩ := HA.out i f hs
      have HNX : Hid (printB (L.take (i + 1)) = printB (L.take i) ++ fnB f) := Lib.hid (by rw [List.take_add_one, hs, Option.toList_some, printB_append])
      have hle : (printB (L.take i)).length + (fnB f).length ≤ (printB L).length := by
        have := HTK.out (i + 1)
        rw [HNX.out, List.length_append] at this
        exact this
      have hii : (i : Int) < (n : Int) := by omega
      obtain ⟨pa, pc, rfl⟩ := lex_form hrp.1
      obtain ⟨qa, qc, rfl⟩ := lex_form hrq.1
      have HZ := Lib.hid (fun (j : Nat) (c : Value) (hj : _ = some c) => HM.out.cellOf (hcells _ c (hvs j c hj)) (fun f => f))
      have hz0 : wr.cell? ⟨q, i * 4, none⟩ = some (.string ⟨f.name.toArray⟩) := HZ.out 0 _ rfl
      have hz1 : wr.cell? ⟨q, i * 4 + 1, none⟩ = some (.int .i64 f.at_) := HZ.out 1 _ rfl
      have hz2 : wr.cell? ⟨q, i * 4 + 2, none⟩ = some (.slice pa f.params.length pc) := HZ.out 2 _ rfl
      have hz3 : wr.cell? ⟨q, i * 4 + 3, none⟩ = some (.slice qa f.body.length qc) := HZ.out 3 _ rfl
      obtain ⟨O, hO⟩ : ∃ O, O = printB (L.take i) := ⟨_, rfl⟩
      rw [← hO] at hle HNX ⊢
      obtain ⟨J, hJ⟩ : ∃ J, J = f.params.map paramB := ⟨_, rfl⟩
      have hJn : J.length = f.params.length := by rw [hJ, List.length_map]
      have hfl : (fnB f).length = f.name.length + (Lib.join J [44, 32]).length + (stsB sp f.body).length + 10 := by
        rw [hJ]
        simp only [fnB, List.length_append, List.length_cons, List.length_nil]
        omega
      have HFB : Hid (fnB f = ([102, 110, 32] ++ f.name ++ [40] ++ Lib.join J [44, 32] ++ [41, 32, 123, 10]) ++ stsB sp f.body ++ [125, 10]) := Lib.hid (by rw [hJ]; rfl)
      have HLn := Lib.hid (fun (w1 : World) (hm : Mods None W w1) => ln_any f.body 0 sp ⟨#[32, 32]⟩ _ _ w1 rfl (HP.out.next hm) hfb (hrq.mods hm (fun _ _ f => f)) (StsAt.modsTo hm (fun _ _ f => f) _ _ hsq) (by have hsp2 : sp.length = 2 := rfl; omega))
      have HPR := Lib.hid (fun (j : Nat) (hj : j < f.params.length) => by
        obtain ⟨g, hg, h1, h2, h3⟩ := row_at hrp.1 (by omega)
        have hjp := List.getElem?_eq_getElem hj
        obtain ⟨e1, e2⟩ := pcells_get _ j _ hjp
        have hjj : J[j]? = some (paramB f.params[j]) := by rw [hJ, List.getElem?_map, hjp]; rfl
        have h5 := join_part [44, 32] J (j + 1) (by omega)
        have h4 := join_next [44, 32] J j _ hjj
        have hl4 : (if j = 0 then (paramB f.params[j]).length else (Lib.join (J.take j) [44, 32]).length + 2 + (paramB f.params[j]).length) ≤ (Lib.join J [44, 32]).length := by
          rw [h4] at h5
          split at h5
          · rename_i h0; rw [if_pos h0]; exact h5
          · rename_i h0; rw [if_neg h0]; simp only [List.length_append, List.length_cons, List.length_nil] at h5; omega
        exact (⟨f.params[j].1, f.params[j].2, g, hg, h1, h2, h3 _ _ e1, h3 _ _ e2, (hfp _ (List.getElem_mem hj)).2, h4, hl4⟩ : ∃ pn t g, pa = some ⟨g, 0, none⟩ ∧ f.params.length ≤ pc ∧ pc ≤ 9223372036854775807 ∧ W.cell? ⟨g, j * 2, none⟩ = some (.string ⟨pn.toArray⟩) ∧ W.cell? ⟨g, j * 2 + 1, none⟩ = some (.int .i64 t) ∧ (t = 1 ∨ t = 2) ∧ Lib.join (J.take (j + 1)) [44, 32] = (if j = 0 then paramB (pn, t) else Lib.join (J.take j) [44, 32] ++ [44, 32] ++ paramB (pn, t)) ∧ (if j = 0 then (paramB (pn, t)).length else (Lib.join (J.take j) [44, 32]).length + 2 + (paramB (pn, t)).length) ≤ (Lib.join J [44, 32]).length))
      have HMA := Lib.hid (HM.out.alloc (.cells #[.string ⟨f.name.toArray⟩, .int .i64 f.at_, .slice pa f.params.length pc, .slice qa f.body.length qc] 33))
      have HB1 := Lib.hid (Blk.new wr #[.string ⟨f.name.toArray⟩, .int .i64 f.at_, .slice pa f.params.length pc, .slice qa f.body.length qc] 33)
      have hlb := HFB
      have HJP := Lib.hid (fun (j : Nat) (hj : j ≤ J.length) => join_part [44, 32] J j hj)
      have HJN := Lib.hid hJn
      obtain ⟨fb, hfb2⟩ : ∃ k, k = (fnB f).length := ⟨_, rfl⟩
      rw [← hfb2] at hfl hle
      clear hs hvs hcells hO hrp hrq hsq hfb hfp hJ hlb hJn hfb2
      go_wp2_with (exfalso; omega)
      obtain ⟨w1, hw1⟩ : ∃ q, q = wr.alloc (.cells #[.string ⟨f.name.toArray⟩, .int .i64 f.at_, .slice pa f.params.length pc, .slice qa f.body.length qc] 33) := ⟨_, rfl⟩
      obtain ⟨k5, hk5⟩ : ∃ k, k = wr.heap.size := ⟨_, rfl⟩
      rw [← hw1] at HMA HB1 ⊢
      rw [← hk5] at HB1 ⊢
      clear hw1 hk5 hz0 hz1 hz2 hz3 HZ
      have HM1 := Lib.hid (Mods.refl None w1)
      go_loopw [3, 6, 7, 23] (fun ov _ _ jv wr2 => ∃ j : Nat, j ≤ f.params.length ∧ ov = .string ⟨(O ++ ([102, 110, 32] ++ f.name ++ [40]) ++ Lib.join (J.take j) [44, 32]).toArray⟩ ∧ jv = .int .i64 j ∧ Hid (Mods None w1 wr2)) (fun _ _ _ jv _ => (f.params.length - intOf jv).toNat)
      case atStart => exact ⟨0, Nat.zero_le _, by simp [ba_append, Lib.join], rfl, HM1⟩
      case round =>
        obtain ⟨j, hj, rfl, rfl, HM2⟩ := hrel
        have hjl := HJP.out j (by have := HJN.out; omega)
        obtain ⟨T, hT⟩ : ∃ T, T = O ++ ([102, 110, 32] ++ f.name ++ [40]) ++ Lib.join (J.take j) [44, 32] := ⟨_, rfl⟩
        have hTl : T.length = O.length + f.name.length + 4 + (Lib.join (J.take j) [44, 32]).length := by rw [hT]; simp only [List.length_append, List.length_cons, List.length_nil]; omega
        rw [← hT]
        have HTT := Lib.hid hT
        clear hT
        by_cases hltj : j < f.params.length
        · obtain ⟨pn, t, g, rfl, hc1, hc2, hy0, hy1, ht, hj4, hj5⟩ := HPR.out j hltj
          have hy0 := HMA.out.cellOf hy0 (fun f => f)
          have hy1 := HMA.out.cellOf hy1 (fun f => f)
          have hy0 := HM2.out.cellOf hy0 (fun f => f)
          have hy1 := HM2.out.cellOf hy1 (fun f => f)
          have hix : ∀ (w : World), Sem.run Tryz.prog (Instr.index 115 (.agg #[.string ⟨#[]⟩, .string ⟨#[58, 32, 105, 110, 116]⟩, .string ⟨#[58, 32, 97, 114, 114]⟩]) (.int .i64 t)) w = .ok (.string ⟨([58, 32] ++ tyB t).toArray⟩) w := by
            rcases ht with rfl | rfl
            · exact ty_1
            · exact ty_2
          obtain ⟨tt, htt⟩ : ∃ tt, tt = [58, 32] ++ tyB t := ⟨_, rfl⟩
          rw [← htt] at hix
          have hpb : paramB (pn, t) = pn ++ tt := by rw [htt]; simp [paramB]
          rw [hpb] at hj4 hj5
          have HJ4 := Lib.hid hj4
          have HM3 := Lib.hid (HM2.out.alloc (.cells #[.string ⟨pn.toArray⟩, .int .i64 t] 85))
          have hjj : (j : Int) < (f.params.length : Int) := by omega
          by_cases hj0 : j = 0
          · rw [if_pos hj0, List.length_append] at hj5
            have hpos : ¬ (0 : Int) < (j : Int) := by omega
            have HJ0 := Lib.hid hj0
            have hTb : T.length + (pn.length + tt.length) ≤ 1000000 := by omega
            have hq0 : ¬ 9223372036854775807 < pn.length + tt.length := by omega
            have hq1 : ¬ 9223372036854775807 < T.length + (pn.length + tt.length) := by omega
            clear hj4 hj0 hTl hjl hpb htt ht
            go_wp2_with fail
            go_region
            go_wp2_with fail
            refine ⟨⟨j + 1, by omega, ?_, by go_num, Lib.hid HM3.out.drew⟩, by simp [intOf]; omega⟩
            rw [HJ4.out, if_pos HJ0.out, ba_append, HTT.out, HJ0.out]
            simp [ba_append, Lib.join]
          · rw [if_neg hj0, List.length_append] at hj5
            have hpos : (0 : Int) < (j : Int) := by omega
            have HJ0 := Lib.hid hj0
            have hTb : T.length + 2 + (pn.length + tt.length) ≤ 1000000 := by omega
            have hq0 : ¬ 9223372036854775807 < pn.length + tt.length := by omega
            have hq1 : ¬ 9223372036854775807 < T.length + 2 := by omega
            have hq2 : ¬ 9223372036854775807 < T.length + 2 + (pn.length + tt.length) := by omega
            clear hj4 hj0 hTl hjl hpb htt ht
            go_wp2_with fail
            go_region
            go_wp2_with fail
            refine ⟨⟨j + 1, by omega, ?_, by go_num, Lib.hid HM3.out.drew⟩, by simp [intOf]; omega⟩
            rw [HJ4.out, if_neg HJ0.out, HTT.out]
            simp [ba_append]
        · obtain rfl : j = f.params.length := by omega
          have hjj : ¬ (f.params.length : Int) < (f.params.length : Int) := by omega
          have HM3 := Lib.hid (HMA.out.trans HM2.out)
          have HB3 := Lib.hid (HB1.out.mods HM2.out (fun f => f))
          have c3 := HB3.out.cell (i := 3) rfl
          go_wp2_with fail
          go_at_call 60
          refine (HLn.out _ HM3.out).mono ?_
          rintro e w4 ⟨rfl, hm4⟩
          have HM4 := Lib.hid (HM3.out.trans hm4)
          have hTb : T.length + (stsB sp f.body).length + 6 ≤ 1000000 := by omega
          have hq0 : ¬ 9223372036854775807 < 4 + (stsB sp f.body).length := by omega
          have hq1 : ¬ 9223372036854775807 < 4 + (stsB sp f.body).length + 2 := by omega
          have hq2 : ¬ 9223372036854775807 < T.length + (4 + (stsB sp f.body).length + 2) := by omega
          clear hm4 c3 hTl hjl
          go_wp2_with (exfalso; omega)
          refine ⟨⟨i + 1, by have := HN.out; omega, ?_, by go_num, HM4⟩, by simp [intOf]; omega⟩
          rw [HNX.out, HFB.out, HTT.out, show J.take f.params.length = J by rw [← HJN.out, List.take_length]]
          simp [ba_append]
    · obtain rfl : i = L.length := by have := HN.out; omega
      have hii : ¬ (L.length : Int) < (n : Int) := by omega
      rw [List.take_length]
      go_wp2
      go_ret
      exact ⟨rfl, HM.out⟩
end Go.Proofs.YtdgedlhefjmcpaaGreatDoor.TreeP.R

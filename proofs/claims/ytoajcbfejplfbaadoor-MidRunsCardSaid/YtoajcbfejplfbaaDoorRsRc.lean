/- Which steps may be a program, as the document tells it: the walk of RightCode. Conditions: what it reads lies. NOT WHOLE YET. -/
import Derived.Test.YtoajcbfejplfbaaDoorRsStp
import Derived.Test.YtoajcbfejplfbaaDoorMidCode
namespace Go.Proofs.YtoajcbfejplfbaaDoor.MidP.R
open Go.RowKit Go.Proofs.YtoajcbfejplfbaaDoor.Wo Go.Maps Go.Proofs.YtoajcbfejplfbaaDoor.TreeP Go.Proofs.YtoajcbfejplfbaaDoor.MidP
set_option linter.unusedVariables false
set_option linter.unusedSimpArgs false
theorem mk_names (w : World) : (Instr.makeMap 69 none).run Tryd.prog w = .ok (.map (some w.heap.size)) (w.alloc (.map #[] 0)) := by
  simp [Instr.makeMap, run_underlying Tryd.underlying69]
theorem mk_counts (w : World) : (Instr.makeMap 72 none).run Tryd.prog w = .ok (.map (some w.heap.size)) (w.alloc (.map #[] 0)) := by
  simp [Instr.makeMap, run_underlying Tryd.underlying72]
/-- Where the first names lead, as they are put in one by one. -/
def ofT (L : List Fm) (i : Nat) : List UInt8 → Option Int := ofF (L.take i)
theorem ofT_next {L : List Fm} {i : Nat} {f : Fm} (hf : L[i]? = some f) (hno : ofT L i f.name = none) : (fun y => if y = f.name then some (i : Int) else ofT L i y) = ofT L (i + 1) := by
  funext y
  have hil := (List.getElem?_eq_some_iff.1 hf).1
  unfold ofT ofF at *
  rw [List.take_add_one, hf]
  simp only [Option.toList_some]
  rw [List.findIdx?_append]
  by_cases hy : y = f.name
  · subst hy
    rw [if_pos rfl]
    cases hk : (L.take i).findIdx? (fun g => g.name == f.name) with
    | none => simp [List.findIdx?_cons, Nat.min_eq_left (Nat.le_of_lt hil)]
    | some k => rw [hk] at hno; cases hno
  · rw [if_neg hy]
    cases hk : (L.take i).findIdx? (fun g => g.name == y) with
    | none => simp [List.findIdx?_cons, show (f.name == y) = false by simpa using fun e => hy e.symm]
    | some k => simp
theorem ofT_any {L : List Fm} {i : Nat} (x : List UInt8) : (ofT L i x).isSome = (L.take i).any (fun g => g.name == x) := by
  unfold ofT ofF
  rw [Option.isSome_map, List.findIdx?_isSome]
/-- What RightCode is asked in. -/
structure RcOk (L : List Fm) : Prop where
  len : L.length ≤ 15
  small : ∀ f ∈ L, f.steps.length ≤ 60 ∧ f.types.length ≤ 40
  name : ∀ f ∈ L, f.name.length ≤ maxLen
  op : ∀ f ∈ L, ∀ s ∈ f.steps, s.op.length ≤ 20 ∧ s.name.length ≤ maxLen ∧ I64 s.label
set_option maxRecDepth 100000 in
set_option maxHeartbeats 4000000 in
theorem rrc_any (L : List Fm) (lv : Value) (W : World) (hL : FmsAt W None lv L) (hX : W.ShapedOpen Tryd.prog) (hO : RcOk L) :
    Calls Tryd.prog 10 #[lv] W fun e w => e = .returned (.bool (refB L)) ∧ Mods None W w := by
  obtain ⟨R, hR⟩ : ∃ R, R = refB L := ⟨_, rfl⟩
  have HR := Lib.hid hR
  rw [← hR]
  have HALL := Lib.hid (fun (w : World) (hm : Mods None W w) => (⟨hL.mods hm (fun _ _ k => k), Mods.shaped hm hX⟩ : FmsAt w None lv L ∧ w.ShapedOpen Tryd.prog))
  obtain ⟨la, lc, rfl, hlc1, hlc2, -⟩ := hL.form
  have HOK := Lib.hid hO
  obtain ⟨n, hn⟩ : ∃ n, n = L.length := ⟨_, rfl⟩
  have HN := Lib.hid hn
  rw [← hn] at hlc1 ⊢
  clear hL hX hO hR hn
  have hmk := mk_names
  obtain ⟨W1, hW1⟩ : ∃ W1, W1 = W.alloc (.map #[] 0) := ⟨_, rfl⟩
  have HM1 : Hid (Mods None W W1) := Lib.hid (by rw [hW1]; exact (Mods.refl _ _).alloc _)
  have HS1 : Hid (SMap W1 W.heap.size 0 (ofT L 0)) := Lib.hid (by rw [hW1]; exact SMap.new W)
  go_enter Tryd.func10, Tryd.ntmps10
  go_upto_region 2 with (fail)
  rw [← hW1]
  clear hW1 hmk
  go_wp2_with fail
  go_loopw [4, 5, 6, 7, 23] (fun _ _ _ _ iv wr => ∃ i : Nat, i ≤ n ∧ iv = .int .i64 i ∧ Hid (headsB (L.take i) (L.drop i) = headsB [] L) ∧ Hid (SMap wr W.heap.size i (ofT L i)) ∧ Hid (Mods (· = W.heap.size) W1 wr)) (fun _ _ _ _ iv _ => (n - intOf iv).toNat)
  case atStart => exact ⟨0, Nat.zero_le _, rfl, Lib.hid rfl, HS1, Lib.hid (Mods.refl _ _)⟩
  case round =>
    obtain ⟨i, hi, rfl, HH, HSM, HMW⟩ := hrel
    have HM : Hid (Mods None W wr) := Lib.hid (HM1.out.trans' HMW.out (fun k e h => by rw [e] at h; exact absurd h (Nat.lt_irrefl _)))
    obtain ⟨b1, b2⟩ := HALL.out wr HM.out
    by_cases hlt : i < n
    · have hil : i < L.length := by have := HN.out; omega
      obtain ⟨g, o, ta, tc, sa, sc, hoe, c0, c1, c2, c3, hT, hS⟩ := b1.get hil
      subst hoe
      obtain ⟨f, hf⟩ : ∃ f, L[i]? = some f := ⟨_, List.getElem?_eq_getElem hil⟩
      have hfe : L[i] = f := (List.getElem?_eq_some_iff.1 hf).2
      rw [hfe] at c0 c1 c2 c3
      have hdr := drop_one hf
      have htk : L.take i ++ [f] = L.take (i + 1) := by rw [List.take_succ_eq_append_getElem hil, hfe]
      have hH := HH.out
      rw [hdr, headsB_cons, htk] at hH
      obtain ⟨W5, hW5⟩ : ∃ W5, W5 = wr.alloc (.cells #[str f.name, .int .i64 f.params, .slice ta f.types.length tc, .slice sa f.steps.length sc] 64) := ⟨_, rfl⟩
      have hm5 : Mods None wr W5 := by rw [hW5]; exact (Mods.refl _ _).alloc _
      have hB5 : Blk W5 wr.heap.size [str f.name, .int .i64 f.params, .slice ta f.types.length tc, .slice sa f.steps.length sc] 64 := by rw [hW5]; exact Blk.new wr _ _
      have d0 := hB5.cell (i := 0) rfl
      have d1 := hB5.cell (i := 1) rfl
      have d2 := hB5.cell (i := 2) rfl
      have HM5 := Lib.hid (HM.out.trans hm5)
      have hpi : (i : Int) < (n : Int) := by omega
      have HS5 := Lib.hid (HSM.out.mods hm5 (fun k => k))
      have hnm := HOK.out.name f (List.mem_of_getElem? hf)
      have hlk := HS5.out.look hnm
      obtain ⟨z, hz⟩ : ∃ z, z = (L.take i).any (fun g => g.name == f.name) := ⟨_, rfl⟩
      rw [← hz] at hH
      have hzs : (ofT L i f.name).isSome = z := by rw [ofT_any, hz]
      obtain ⟨y, hy⟩ : ∃ y, y = (ofT L i f.name).getD 0 := ⟨_, rfl⟩
      rw [hzs, ← hy] at hlk
      obtain ⟨tn, htn⟩ : ∃ tn, tn = f.types.length := ⟨_, rfl⟩
      obtain ⟨sn, hsn⟩ : ∃ sn, sn = f.steps.length := ⟨_, rfl⟩
      rw [← htn] at hH c2 d2 hW5
      rw [← hsn] at c3 hW5
      have HW := Lib.hid (And.intro hf (And.intro hnm hzs))
      have HB5 := Lib.hid hB5
      unfold str at *
      clear hT hS hf hfe hdr htk hm5 hB5 b1 b2 htn hsn hz hil hzs hy hnm
      have HM5W := Lib.hid (show Mods None wr W5 by rw [hW5]; exact (Mods.refl _ _).alloc _)
      cases z
      · by_cases hin : 0 ≤ f.params ∧ f.params ≤ (tn : Int)
        · have HIN := Lib.hid (rin_true f.params 0 (tn : Int) W5 hin.1 hin.2)
          have HH2 : Hid (headsB (L.take (i + 1)) (L.drop (i + 1)) = headsB [] L) := Lib.hid (by rw [← hH, if_neg (by simp; omega)])
          have h15 := HOK.out.len
          obtain ⟨w6, hput, hs6, hm6⟩ := HS5.out.put HW.out.2.1 (x := (i : Int)) (by unfold I64; have := HN.out; omega) (by unfold maxLen; have := HN.out; omega)
          rw [ofT_next HW.out.1 (by have := HW.out.2.2; revert this; cases ofT L i f.name <;> simp)] at hs6
          have HS6 := Lib.hid hs6
          have HM6 := Lib.hid ((HMW.out.trans (HM5W.out.mono fun _ _ f => f.elim)).trans hm6)
          clear hH hin hs6 hm6 h15
          go_upto_region 5 with (fail)
          rw [← hW5]
          clear hW5
          go_wp2_with (go_at_call 30; refine HIN.out.mono ?_; rintro e w ⟨rfl, rfl⟩)
          exact ⟨⟨i + 1, by omega, by go_num, HH2, HS6, HM6⟩, by simp [intOf]; omega⟩
        · have HIN := Lib.hid (rin_false f.params 0 (tn : Int) W5 hin)
          have HF : Hid (R = false) := Lib.hid (by rw [HR.out]; unfold refB; rw [← hH, if_pos (by omega)]; simp)
          clear hH hin
          go_upto_region 5 with (fail)
          rw [← hW5]
          clear hW5
          go_wp2_with (go_at_call 30; refine HIN.out.mono ?_; rintro e w ⟨rfl, rfl⟩)
          go_ret
          rw [HF.out]
          exact ⟨rfl, HM5.out⟩
      · have HF : Hid (R = false) := Lib.hid (by rw [HR.out]; unfold refB; rw [← hH, if_pos (Or.inr (Or.inr rfl))]; simp)
        clear hH
        go_upto_region 5 with (fail)
        rw [← hW5]
        clear hW5
        go_wp2_with fail
        go_ret
        rw [HF.out]
        exact ⟨rfl, HM5.out⟩
    · obtain rfl : i = n := by omega
      have hh : headsB [] L = true := by
        have := HH.out
        rw [HN.out, List.drop_length] at this
        rw [← this]
        cases L.take L.length <;> rfl
      have HHD := Lib.hid (heads_of [] L hh)
      have HSO : Hid (SMap wr W.heap.size i (ofF L)) := Lib.hid (by
        have h := HSM.out
        unfold ofT at h
        rw [HN.out, List.take_length] at h
        rw [HN.out]
        exact h)
      have hlk := HSO.out.look (a := [109, 97, 105, 110]) (by unfold maxLen; decide)
      have HRB : Hid (R = (L.any (fun f => f.name == [109, 97, 105, 110] && f.params == 0) && decide (i ≤ 12) && L.all (refFnB L))) := Lib.hid (by rw [HR.out]; unfold refB; rw [hh, ← HN.out]; simp)
      have HPW := Lib.hid (heads_find L [] hh)
      have hpi : ¬ (i : Int) < (i : Int) := by omega
      unfold ofF at hlk
      clear hh HH HSM HR
      cases hk : L.findIdx? (fun g => g.name == [109, 97, 105, 110]) with
      | none =>
        rw [hk] at hlk
        simp only [Option.map_none, Option.getD_none, Option.isSome_none] at hlk
        have HF : Hid (R = false) := Lib.hid (by
          rw [HRB.out]
          have : L.any (fun f => f.name == [109, 97, 105, 110] && f.params == 0) = false := by
            rw [List.any_eq_false]
            intro x hx
            have h := List.findIdx?_eq_none_iff.1 hk x hx
            rw [h]; simp
          rw [this]; simp)
        clear hk b1 b2
        go_wp2_with fail
        go_ret
        rw [HF.out]
        exact ⟨rfl, HM.out⟩
      | some k =>
        rw [hk] at hlk
        simp only [Option.map_some, Option.getD_some, Option.isSome_some] at hlk
        have hkl : k < L.length := (List.findIdx?_eq_some_iff_getElem.1 hk).1
        obtain ⟨G, hG⟩ : ∃ G, L[k]? = some G := ⟨_, List.getElem?_eq_getElem hkl⟩
        have hGe : L[k] = G := (List.getElem?_eq_some_iff.1 hG).2
        have hGn : G.name = [109, 97, 105, 110] := by
          have h := (List.findIdx?_eq_some_iff_getElem.1 hk).2.1
          rw [hGe] at h
          simpa using h
        have hany : Hid (L.any (fun f => f.name == [109, 97, 105, 110] && f.params == 0) = (G.params == 0)) := Lib.hid (by
          have hfd := HPW.out G (List.mem_of_getElem? hG)
          rw [Bool.eq_iff_iff, List.any_eq_true]
          constructor
          · rintro ⟨x, hx, hp⟩
            rw [Bool.and_eq_true] at hp
            have hxd := HPW.out x hx
            have hxn : x.name = G.name := by rw [hGn]; simpa using hp.1
            rw [hxn, hfd] at hxd
            rw [Option.some.inj hxd]
            exact hp.2
          · intro h
            exact ⟨G, List.mem_of_getElem? hG, by rw [hGn, h]; rfl⟩)
        obtain ⟨g, o, ta, tc, sa, sc, hoe, c0, c1, c2, c3, hT, hS⟩ := b1.get hkl
        subst hoe
        rw [hGe] at c1
        have hki : (k : Int) < (i : Int) := by have := HN.out; omega
        clear hk hkl hG hGe hGn c0 c2 c3 hT hS b1 b2
        by_cases hp : G.params = 0
        rotate_left
        · have hb : (G.params != 0) = true := by simpa using hp
          have HF : Hid (R = false) := Lib.hid (by rw [HRB.out, hany.out, show (G.params == 0) = false by simpa using hp]; rfl)
          clear hp
          go_wp2_with fail
          go_ret
          rw [HF.out]
          exact ⟨rfl, HM.out⟩
        · have hb : (G.params != 0) = false := by simpa using hp
          have hany := Lib.hid (hany.out.trans (by simpa using hp : (G.params == 0) = true))
          clear hp
          by_cases h12 : (i : Int) > 12
          · have HF : Hid (R = false) := Lib.hid (by rw [HRB.out, show decide (i ≤ 12) = false from decide_eq_false (by omega)]; simp)
            go_wp2_with fail
            go_ret
            rw [HF.out]
            exact ⟨rfl, HM.out⟩
          · have HR2 : Hid (R = L.all (refFnB L)) := Lib.hid (by rw [HRB.out, hany.out, show decide (i ≤ 12) = true from decide_eq_true (by omega)]; simp)
            clear HRB hany HPW
            go_wp2_with fail
            clear c1
            obtain ⟨Wl, hWl⟩ : ∃ Wl : World, Wl = wr := ⟨_, rfl⟩
            rw [← hWl]
            have HM := Lib.hid (show Mods None W Wl by rw [hWl]; exact HM.out)
            have HSO := Lib.hid (show SMap Wl W.heap.size i (ofF L) by rw [hWl]; exact HSO.out)
            clear hWl
            go_loopw [11, 12, 13, 15, 17, 19, 72] (fun _ _ _ _ _ _ iv wr => ∃ j : Nat, j ≤ i ∧ iv = .int .i64 j ∧ Hid ((L.take j).all (refFnB L) = true) ∧ Hid (Mods None Wl wr)) (fun _ _ _ _ _ _ iv _ => (i - intOf iv).toNat)
            case atStart => exact ⟨0, Nat.zero_le _, rfl, Lib.hid rfl, Lib.hid (Mods.refl _ _)⟩
            case round =>
              obtain ⟨wj, rfl⟩ : ∃ wj : World, wj = wr := ⟨_, rfl⟩
              obtain ⟨j, hj, rfl, HA, HMW⟩ := hrel
              have HM2 : Hid (Mods None W wj) := Lib.hid (HM.out.trans HMW.out)
              obtain ⟨b1, b2⟩ := HALL.out wj HM2.out
              by_cases hlj : j < i
              rotate_left
              · obtain rfl : j = i := by omega
                have hpj : ¬ (j : Int) < (j : Int) := by omega
                have HF : Hid (R = true) := Lib.hid (by
                  have h := HA.out
                  rw [HN.out, List.take_length] at h
                  rw [HR2.out, h])
                clear b1 b2
                go_wp2_with fail
                go_ret
                rw [HF.out]
                exact ⟨rfl, HM2.out⟩
              · have hjl : j < L.length := by rw [← HN.out]; exact hlj
                obtain ⟨F, hF⟩ : ∃ F, L[j]? = some F := ⟨_, List.getElem?_eq_getElem hjl⟩
                have hFe : L[j] = F := (List.getElem?_eq_some_iff.1 hF).2
                obtain ⟨g2, o2, fa, fc, xa, xc, hoe2, q0, q1, q2, q3, hT, hS⟩ := b1.get hjl
                obtain ⟨rfl, rfl⟩ : g2 = g ∧ o2 = o := by
                  have h := Option.some.inj hoe2
                  exact ⟨(Addr.mk.inj h).1.symm, (Addr.mk.inj h).2.1.symm⟩
                rw [hFe] at q0 q1 q2 q3 hT hS
                have HNF : Hid (refFnB L F = false → R = false) := Lib.hid (fun h => by
                  rw [HR2.out, List.all_eq_false]
                  exact ⟨F, List.mem_of_getElem? hF, by rw [h]; decide⟩)
                have hpj : (j : Int) < (i : Int) := by omega
                have hsm := HOK.out.small F (List.mem_of_getElem? hF)
                have hops := HOK.out.op F (List.mem_of_getElem? hF)
                have HFM := Lib.hid (List.mem_of_getElem? hF)
                have HNX := Lib.hid (show L.take j ++ [F] = L.take (j + 1) by rw [List.take_succ_eq_append_getElem hjl, hFe])
                obtain ⟨tn, htn⟩ : ∃ tn, tn = F.types.length := ⟨_, rfl⟩
                obtain ⟨sn, hsn⟩ : ∃ sn, sn = F.steps.length := ⟨_, rfl⟩
                have HTN := Lib.hid (And.intro htn hsn)
                have htc : tn ≤ fc := by
                  obtain ⟨_, _, e1, e2, -⟩ := hT.form
                  obtain ⟨-, -, rfl⟩ := Value.slice.inj e1
                  omega
                have hsc : sn ≤ xc := by
                  obtain ⟨_, _, e1, e2, -⟩ := hS.form
                  obtain ⟨-, -, rfl⟩ := Value.slice.inj e1
                  omega
                obtain ⟨W5, hW5⟩ : ∃ W5, W5 = wj.alloc (.cells #[str F.name, .int .i64 F.params, .slice fa F.types.length fc, .slice xa F.steps.length xc] 64) := ⟨_, rfl⟩
                have hm5 : Mods None wj W5 := by rw [hW5]; exact (Mods.refl _ _).alloc _
                have HB5 : Hid (Blk W5 wj.heap.size [str F.name, .int .i64 F.params, .slice fa F.types.length fc, .slice xa F.steps.length xc] 64) := Lib.hid (by rw [hW5]; exact Blk.new wj _ _)
                have HM5 := Lib.hid (HM2.out.trans hm5)
                have HL5 := Lib.hid (HMW.out.trans hm5)
                have HTS0 := Lib.hid (And.intro hT hS)
                have HJ5 := Lib.hid hm5
                have HTS := Lib.hid (And.intro (hT.mods hm5 (fun _ _ k => k)) (hS.mods hm5 (fun _ _ k => k)))
                have d2 := HB5.out.cell (i := 2) rfl
                have d3 := HB5.out.cell (i := 3) rfl
                have hs60 : sn ≤ 60 := by rw [hsn]; exact hsm.1
                have ht40 : tn ≤ 40 := by rw [htn]; exact hsm.2
                have HOP := Lib.hid hops
                rw [← htn] at q2 d2 hW5
                rw [← hsn] at q3 d3 hW5
                unfold str at q0 hW5
                clear hT hS hF hFe hm5 b1 b2 htn hsn hops hoe2 hsm
                go_upto_region 16 with (fail)
                rw [← hW5]
                clear hW5 q0 q1 q2 q3
                have HRF : Hid (refFnB L F = (decide (1 ≤ sn) && decide (sn ≤ 6000) && decide (tn ≤ 3000) && (match F.steps.getLast? with | some s => s.code == 8 || s.code == 4 | none => false) && F.types.all (fun t => t == 1 || t == 2) && F.steps.all (fun s => !(decide (1 < labN F s.label) && s.code == 6) && refStepB L F s))) := Lib.hid (by rw [HTN.out.1, HTN.out.2]; rfl)
                have ht3 : ¬ (3000 : Int) < (tn : Int) := by omega
                by_cases hs0 : sn = 0
                · have HF : Hid (R = false) := Lib.hid (HNF.out (by rw [HRF.out, hs0]; rfl))
                  subst hs0
                  go_wp2_with fail
                  go_ret
                  rw [HF.out]
                  exact ⟨rfl, HM5.out⟩
                obtain ⟨m, rfl⟩ : ∃ m, sn = m + 1 := ⟨sn - 1, by omega⟩
                have g1 : decide ((m : Int) + 1 < 1) = false := decide_eq_false (by omega)
                have g2 : decide ((6000 : Int) < (m : Int) + 1) = false := decide_eq_false (by omega)
                have hml : m < F.steps.length := by have := HTN.out.2; omega
                obtain ⟨zg, zo, za, zc, rfl, hcl, -⟩ := HTS.out.2.get hml
                obtain ⟨x, hx⟩ : ∃ x, F.steps[m]? = some x := ⟨F.steps[m], List.getElem?_eq_getElem hml⟩
                have hlast : F.steps.getLast? = some x := by rw [List.getLast?_eq_getElem?, ← HTN.out.2]; exact hx
                have hxe : F.steps[m] = x := (List.getElem?_eq_some_iff.1 hx).2
                rw [hxe] at hcl
                have c0 := hcl.1
                have HRG : Hid (refFnB L F = ((x.code == 8 || x.code == 4) && F.types.all (fun t => t == 1 || t == 2) && F.steps.all (fun s => !(decide (1 < labN F s.label) && s.code == 6) && refStepB L F s))) := Lib.hid (by
                  rw [HRF.out, hlast, show decide (1 ≤ m + 1) = true from decide_eq_true (by omega), show decide (m + 1 ≤ 6000) = true from decide_eq_true (by omega), show decide (tn ≤ 3000) = true from decide_eq_true (by omega)]
                  rfl)
                have hw : IntKind.i64.wrap (((m + 1 : Nat) : Int) - 1) = (m : Int) := by rw [IntWalk.i64_in _ (by omega)]; omega
                have hw2 : ((m + 1 : Nat) : Int) - 1 = (m : Int) := by omega
                have hmm : (m : Int) < ((m + 1 : Nat) : Int) := by omega
                have hm0 : (0 : Int) ≤ (m : Int) := by omega
                clear hx hlast hxe hcl hml HRF hs0
                by_cases h8 : x.code ≠ 8 ∧ x.code ≠ 4
                · have n8 : (x.code != 8) = true := by simpa using h8.1
                  have n4 : (x.code != 4) = true := by simpa using h8.2
                  have HF : Hid (R = false) := Lib.hid (HNF.out (by rw [HRG.out, show (x.code == 8) = false by simpa using h8.1, show (x.code == 4) = false by simpa using h8.2]; rfl))
                  clear h8
                  go_wp2_with fail
                  go_ret
                  rw [HF.out]
                  exact ⟨rfl, HM5.out⟩
                have HRH : Hid (refFnB L F = (F.types.all (fun t => t == 1 || t == 2) && F.steps.all (fun s => !(decide (1 < labN F s.label) && s.code == 6) && refStepB L F s))) := Lib.hid (by
                  rw [HRG.out, show (x.code == 8 || x.code == 4) = true by
                    by_cases e8 : x.code = 8
                    · simp [e8]
                    · have e4 : x.code = 4 := Classical.byContradiction (fun e4 => h8 ⟨e8, e4⟩)
                      simp [e4]]
                  rfl)
                have hcase : (x.code != 8) = false ∨ ((x.code != 8) = true ∧ (x.code != 4) = false) := by
                  by_cases e8 : x.code = 8
                  · exact Or.inl (by simp [e8])
                  · have e4 : x.code = 4 := Classical.byContradiction (fun e4 => h8 ⟨e8, e4⟩)
                    exact Or.inr ⟨by simp [e4], by simp [e4]⟩
                clear h8 HRG
                have hmk2 := mk_counts
                obtain ⟨W6, hW6⟩ : ∃ W6, W6 = W5.alloc (.map #[] 0) := ⟨_, rfl⟩
                have hm6 : Mods None W5 W6 := by rw [hW6]; exact (Mods.refl _ _).alloc _
                have HM6 := Lib.hid (HM5.out.trans hm6)
                have HL6 := Lib.hid (HL5.out.trans hm6)
                have HJ6 := Lib.hid (HJ5.out.trans hm6)
                have HB6 := Lib.hid (HB5.out.mods hm6 (fun f => f))
                have HC6 : Hid (IntMap W6 W5.heap.size 0 (.int .i64 0) (fun l => .int .i64 (((labs (F.steps.take 0)).count l : Nat) : Int))) := Lib.hid (by rw [hW6]; exact IntMap.new W5 _)
                have HBL : Hid (Wl.heap.size ≤ W5.heap.size ∧ wj.heap.size < W5.heap.size) := Lib.hid ⟨by have := HL5.out.size; omega, by have := HB5.out.lt; omega⟩
                obtain ⟨bl, hbl⟩ : ∃ bl, bl = W5.heap.size := ⟨_, rfl⟩
                rw [← hbl] at HC6 HBL
                clear hm6
                rcases hcase with n8 | ⟨n8, n4⟩
                all_goals
                  go_upto_region 20 with (fail)
                  rw [← hW6, ← hbl]
                  clear hW6 hbl hmk2 c0 d2 d3
                  have d2 := HB6.out.cell (i := 2) rfl
                  have d3 := HB6.out.cell (i := 3) rfl
                  rw [← HTN.out.1] at d2
                  rw [← HTN.out.2] at d3
                  go_wp2_with fail
                  go_loopw [15, 115] (fun _ iv wr => ∃ k : Nat, k ≤ tn ∧ iv = .int .i64 k ∧ Hid ((F.types.take k).all (fun t => t == 1 || t == 2) = true) ∧ W6 = wr) (fun _ iv _ => (tn - intOf iv).toNat)
                  case atStart => exact ⟨0, Nat.zero_le _, rfl, Lib.hid (by simp), rfl⟩
                  case round =>
                    obtain ⟨k, hk, rfl, HTA, rfl⟩ := hrel
                    by_cases hkt : k < tn
                    · have hkl : k < F.types.length := by have := HTN.out.1; omega
                      obtain ⟨ug, uo, he, ucell⟩ := (HTS0.out.1.mods HJ6.out (fun _ _ k => k)).get hkl
                      subst he
                      obtain ⟨u, hu⟩ : ∃ u, F.types[k]? = some u := ⟨_, List.getElem?_eq_getElem hkl⟩
                      have hue : F.types[k] = u := (List.getElem?_eq_some_iff.1 hu).2
                      rw [hue] at ucell
                      have hkk : (k : Int) < (tn : Int) := by omega
                      have HTK : Hid (F.types.take (k + 1) = F.types.take k ++ [u]) := Lib.hid (by rw [List.take_succ_eq_append_getElem hkl, hue])
                      have HTM := Lib.hid (List.mem_of_getElem? hu)
                      clear hu hue hkl
                      by_cases hu12 : u = 1 ∨ u = 2
                      · have HTA2 : Hid ((F.types.take (k + 1)).all (fun t => t == 1 || t == 2) = true) := Lib.hid (by
                          rw [HTK.out, List.all_append, HTA.out]
                          rcases hu12 with rfl | rfl <;> rfl)
                        clear HTK HTM
                        rcases hu12 with rfl | rfl
                        all_goals
                          go_wp2_with fail
                          exact ⟨⟨k + 1, by omega, by go_num, HTA2, by trivial⟩, by simp [intOf]; omega⟩
                      · have n1 : (u != 1) = true := by simp; omega
                        have n2 : (u != 2) = true := by simp; omega
                        have HF : Hid (R = false) := Lib.hid (HNF.out (by
                          rw [HRH.out, show F.types.all (fun t => t == 1 || t == 2) = false by
                            rw [List.all_eq_false]
                            exact ⟨u, HTM.out, by simp; omega⟩]
                          rfl))
                        clear hu12 HTK HTM
                        go_wp2_with fail
                        go_ret
                        rw [HF.out]
                        exact ⟨rfl, HM6.out⟩
                    · obtain rfl : k = tn := by omega
                      have HRI : Hid (refFnB L F = F.steps.all (fun s => !(decide (1 < labN F s.label) && s.code == 6) && refStepB L F s)) := Lib.hid (by
                        have h := HTA.out
                        rw [HTN.out.1, List.take_length] at h
                        rw [HRH.out, h, Bool.true_and])
                      have hkk : ¬ (k : Int) < (k : Int) := by omega
                      clear hkt HTA
                      go_wp2_with fail
                      clear d2 d3
                      go_loopw [17, 129] (fun _ iv wr => ∃ (i2 n2 : Nat), i2 ≤ m + 1 ∧ iv = .int .i64 i2 ∧ n2 ≤ i2 ∧ Hid (IntMap wr bl n2 (.int .i64 0) (fun l => .int .i64 (((labs (F.steps.take i2)).count l : Nat) : Int))) ∧ Hid (Mods (· = bl) W6 wr)) (fun _ iv _ => (m + 1 - intOf iv).toNat)
                      case atStart => exact ⟨0, 0, Nat.zero_le _, rfl, Nat.le_refl _, HC6, Lib.hid (Mods.refl _ _)⟩
                      case round =>
                        clear HC6
                        obtain ⟨i2, n2, hi2, rfl, hn2, HC, HMC⟩ := hrel
                        obtain ⟨w7, rfl⟩ : ∃ w7 : World, w7 = wr := ⟨_, rfl⟩
                        have HJ7 : Hid (Mods None wj w7) := Lib.hid (HJ6.out.trans' HMC.out (fun k hk hlt => by have := HBL.out.2; omega))
                        have HL7 : Hid (Mods None Wl w7) := Lib.hid (HL6.out.trans' HMC.out (fun k hk hlt => by have := HBL.out.1; omega))
                        have HB7 := Lib.hid (HB6.out.mods HMC.out (fun e => by have := HBL.out.2; omega))
                        by_cases hks : i2 < m + 1
                        · have hkl : i2 < F.steps.length := by have := HTN.out.2; omega
                          obtain ⟨y, hy⟩ : ∃ y, F.steps[i2]? = some y := ⟨_, List.getElem?_eq_getElem hkl⟩
                          have hye : F.steps[i2] = y := (List.getElem?_eq_some_iff.1 hy).2
                          obtain ⟨yg, yo, ya, yc, he, hcs, hya⟩ := (HTS0.out.2.mods HJ7.out (fun _ _ k => k)).get hkl
                          obtain ⟨rfl, rfl⟩ : zg = yg ∧ zo = yo := by simpa using he
                          rw [hye] at hcs hya
                          obtain ⟨c0, c1, c2, c3, c4, c5, c6, c7, c8, c9⟩ := hcs
                          have hkk2 : (i2 : Int) < ((m + 1 : Nat) : Int) := by omega
                          have hkk3 : (i2 : Int) < (m : Int) + 1 := by omega
                          obtain ⟨an, han⟩ : ∃ an, an = y.args.length := ⟨_, rfl⟩
                          rw [← han] at c9
                          obtain ⟨W8, hW8⟩ : ∃ W8, W8 = w7.alloc (.cells (#[.int .i64 y.code, .int .i64 y.dst, .int .i64 y.a, .int .i64 y.b, .int .i64 y.c, .int .i64 y.n, str y.op, .int .i64 y.label, str y.name, .slice ya an yc]) 65) := ⟨_, rfl⟩
                          have hm8 : Mods None w7 W8 := by rw [hW8]; exact (Mods.refl _ _).alloc _
                          have hB8 : Blk W8 w7.heap.size [.int .i64 y.code, .int .i64 y.dst, .int .i64 y.a, .int .i64 y.b, .int .i64 y.c, .int .i64 y.n, str y.op, .int .i64 y.label, str y.name, .slice ya an yc] 65 := by rw [hW8]; exact Blk.new w7 _ _
                          have e0 := hB8.cell (i := 0) rfl
                          have e7 := hB8.cell (i := 7) rfl
                          have hlb := (HOP.out y (List.mem_of_getElem? hy)).2.2
                          have htk : labs (F.steps.take (i2 + 1)) = labs (F.steps.take i2) ++ labs [y] := by rw [List.take_succ_eq_append_getElem hkl, hye, labs_append]
                          have hlk := (HC.out.mods hm8 (fun f => f)).look (t := 72) Tryd.underlying72 (s_zero_int _) hlb
                          obtain ⟨cn, hcn⟩ : ∃ cn, cn = (labs (F.steps.take i2)).count y.label := ⟨_, rfl⟩
                          have hcl : cn ≤ i2 := by
                            rw [hcn]
                            refine Nat.le_trans List.count_le_length ?_
                            unfold labs
                            rw [List.length_map]
                            refine Nat.le_trans (List.length_filter_le _ _) ?_
                            rw [List.length_take]
                            omega
                          simp only [← hcn] at hlk
                          unfold str at c6 c8 hW8
                          by_cases h6 : y.code = 6
                          · obtain ⟨w9, hput, hmp9, hm9⟩ := (HC.out.mods hm8 (fun f => f)).put (t := 72) Tryd.underlying72 hlb (.int .i64 ((cn : Int) + 1)) (by unfold maxLen; omega)
                            have HC9 : Hid (IntMap w9 bl (n2 + 1) (.int .i64 0) (fun l => .int .i64 (((labs (F.steps.take (i2 + 1))).count l : Nat) : Int))) := Lib.hid (by
                              refine cast (congrArg _ ?_) hmp9
                              funext l
                              rw [htk, List.count_append, show labs [y] = [y.label] by simp [labs, h6]]
                              by_cases hl : l = y.label
                              · subst hl
                                rw [if_pos rfl, ← hcn]
                                simp
                              · rw [if_neg hl]
                                simp [List.count_cons, Ne.symm hl])
                            have HM9 : Hid (Mods (· = bl) W6 w9) := Lib.hid ((HMC.out.trans (hm8.mono fun _ _ f => f.elim)).trans hm9)
                            have hcb : (cn : Int) ≤ 60 := by omega
                            rw [h6] at c0 e0 hW8
                            clear hcl hcn htk hlb hB8 hm8 hy hye hya hmp9 hm9 han
                            go_upto_region 29 with (fail)
                            rw [← hW8]
                            clear hW8
                            go_wp2_with fail
                            exact ⟨⟨i2 + 1, n2 + 1, by omega, by go_num, by omega, HC9, HM9⟩, by simp [intOf]; omega⟩
                          · have HC9 : Hid (IntMap W8 bl n2 (.int .i64 0) (fun l => .int .i64 (((labs (F.steps.take (i2 + 1))).count l : Nat) : Int))) := Lib.hid (by
                              have h := HC.out.mods hm8 (fun f => f)
                              rw [htk, show labs [y] = [] by simp [labs, h6], List.append_nil]
                              exact h)
                            have HM9 : Hid (Mods (· = bl) W6 W8) := Lib.hid (HMC.out.trans (hm8.mono fun _ _ f => f.elim))
                            have n6 : (y.code == 6) = false := by simpa using h6
                            clear hcl hcn htk hlb hB8 hm8 hy hye hya hlk han h6
                            go_upto_region 29 with (fail)
                            rw [← hW8]
                            clear hW8
                            go_wp2_with fail
                            exact ⟨⟨i2 + 1, n2, by omega, by go_num, by omega, HC9, HM9⟩, by simp [intOf]; omega⟩
                        · obtain rfl : i2 = m + 1 := by omega
                          have HLB : Hid (IntMap w7 bl n2 (.int .i64 0) (fun l => .int .i64 (labN F l : Int))) := Lib.hid (by
                            have h := HC.out
                            rw [HTN.out.2, List.take_length] at h
                            exact h)
                          have hkk2 : ¬ ((m : Int) + 1 < (m : Int) + 1) := by omega
                          have d0 := HB7.out.cell (i := 0) rfl
                          have d1 := HB7.out.cell (i := 1) rfl
                          have d2 := HB7.out.cell (i := 2) rfl
                          have d3 := HB7.out.cell (i := 3) rfl
                          rw [← HTN.out.1] at d2
                          rw [← HTN.out.2] at d3
                          clear hks HC
                          go_wp2_with fail
                          clear d0 d1 d2 d3
                          have HW7 := Lib.hid (HM.out.trans HL7.out)
                          go_loopw [19, 145] (fun _ iv wr => ∃ i3 : Nat, i3 ≤ m + 1 ∧ iv = .int .i64 i3 ∧ Hid ((F.steps.take i3).all (fun s => !(decide (1 < labN F s.label) && s.code == 6) && refStepB L F s) = true) ∧ Hid (Mods None w7 wr)) (fun _ iv _ => (m + 1 - intOf iv).toNat)
                          case atStart => exact ⟨0, Nat.zero_le _, rfl, Lib.hid (by simp), Lib.hid (Mods.refl _ _)⟩
                          case round =>
                            obtain ⟨i3, hi3, rfl, HQ, HM8⟩ := hrel
                            obtain ⟨w8, rfl⟩ : ∃ w8 : World, w8 = wr := ⟨_, rfl⟩
                            by_cases hks : i3 < m + 1
                            · have hkl : i3 < F.steps.length := by have := HTN.out.2; omega
                              obtain ⟨y, hy⟩ : ∃ y, F.steps[i3]? = some y := ⟨_, List.getElem?_eq_getElem hkl⟩
                              have hye : F.steps[i3] = y := (List.getElem?_eq_some_iff.1 hy).2
                              have HJ8 := Lib.hid (HJ7.out.trans HM8.out)
                              obtain ⟨yg, yo, ya, yc, he, hcs, hya⟩ := (HTS0.out.2.mods HJ8.out (fun _ _ k => k)).get hkl
                              obtain ⟨rfl, rfl⟩ : zg = yg ∧ zo = yo := by simpa using he
                              rw [hye] at hcs hya
                              obtain ⟨c0, c1, c2, c3, c4, c5, c6, c7, c8, c9⟩ := hcs
                              have hkk2 : (i3 : Int) < ((m + 1 : Nat) : Int) := by omega
                              have hkk3 : (i3 : Int) < (m : Int) + 1 := by omega
                              obtain ⟨an, han⟩ : ∃ an, an = y.args.length := ⟨_, rfl⟩
                              rw [← han] at c9
                              obtain ⟨W9, hW9⟩ : ∃ W9, W9 = w8.alloc (.cells (#[.int .i64 y.code, .int .i64 y.dst, .int .i64 y.a, .int .i64 y.b, .int .i64 y.c, .int .i64 y.n, str y.op, .int .i64 y.label, str y.name, .slice ya an yc]) 65) := ⟨_, rfl⟩
                              have hm9 : Mods None w8 W9 := by rw [hW9]; exact (Mods.refl _ _).alloc _
                              have hB9 : Blk W9 w8.heap.size [.int .i64 y.code, .int .i64 y.dst, .int .i64 y.a, .int .i64 y.b, .int .i64 y.c, .int .i64 y.n, str y.op, .int .i64 y.label, str y.name, .slice ya an yc] 65 := by rw [hW9]; exact Blk.new w8 _ _
                              have e0 := hB9.cell (i := 0) rfl
                              have e1 := hB9.cell (i := 1) rfl
                              have e2 := hB9.cell (i := 2) rfl
                              have e3 := hB9.cell (i := 3) rfl
                              have e4 := hB9.cell (i := 4) rfl
                              have e5 := hB9.cell (i := 5) rfl
                              have e6 := hB9.cell (i := 6) rfl
                              have e7 := hB9.cell (i := 7) rfl
                              have e8 := hB9.cell (i := 8) rfl
                              have e9 := hB9.cell (i := 9) rfl
                              have HB9 := HB7.out.mods (HM8.out.trans hm9) (fun f => f)
                              have d0 := HB9.cell (i := 0) rfl
                              have d1 := HB9.cell (i := 1) rfl
                              have d2 := HB9.cell (i := 2) rfl
                              have d3 := HB9.cell (i := 3) rfl
                              rw [← HTN.out.1] at d2
                              rw [← HTN.out.2] at d3
                              have hop := HOP.out y (List.mem_of_getElem? hy)
                              have HJ9 := Lib.hid (HJ8.out.trans hm9)
                              have HX9 : Hid (Mods None w7 W9) := Lib.hid (HM8.out.trans hm9)
                              have HMW9 := Lib.hid (HW7.out.trans HX9.out)
                              obtain ⟨a1, a2⟩ := HALL.out W9 HMW9.out
                              have hlab := HLB.out.mods HX9.out (fun f => f)
                              have hst := rstep_any L F y W.heap.size bl i n2 _ fa (some ⟨zg, zo, none⟩) ya fc xc yc W9 hop.2.1 hop.1 hop.2.2 a2 (HTS0.out.1.mods HJ9.out (fun _ _ k => k)) (HTS0.out.2.mods HJ9.out (fun _ _ k => k)) (hya.mods hm9 (fun _ _ k => k)) a1 HHD.out (HSO.out.mods (HL7.out.trans HX9.out) (fun f => f)) hlab
                              obtain ⟨b, hb⟩ : ∃ b, b = refStepB L F y := ⟨_, rfl⟩
                              rw [← hb, ← HTN.out.1, ← HTN.out.2, ← han] at hst
                              unfold stpL at hst
                              rw [← HN.out] at hst
                              have HST := Lib.hid hst
                              have hlk := hlab.look (t := 72) Tryd.underlying72 (s_zero_int _) hop.2.2
                              obtain ⟨cn, hcn⟩ : ∃ cn, cn = labN F y.label := ⟨_, rfl⟩
                              simp only [← hcn] at hlk
                              have HTK : Hid (F.steps.take (i3 + 1) = F.steps.take i3 ++ [y]) := Lib.hid (by rw [List.take_succ_eq_append_getElem hkl, hye])
                              have HTM := Lib.hid (And.intro (List.mem_of_getElem? hy) (And.intro hb hcn))
                              unfold str at c6 c8 hW9 e6 e8 d0 HST
                              clear hst hlab hop a1 a2 HB9 hB9 hm9 hy hye hya hcn hb han hkl hks
                              have hgo : (1 < cn ∧ y.code = 6) ∨ ((1 < (cn : Int)) ∧ (y.code == 6) = false) ∨ ¬ (1 < (cn : Int)) := by
                                by_cases h1 : 1 < cn
                                · by_cases h2 : y.code = 6
                                  · exact Or.inl ⟨h1, h2⟩
                                  · exact Or.inr (Or.inl ⟨by omega, by simpa using h2⟩)
                                · exact Or.inr (Or.inr (by omega))
                              rcases hgo with ⟨hg1, hg2⟩ | hgo
                              · have HF : Hid (R = false) := Lib.hid (HNF.out (by
                                  rw [HRI.out, List.all_eq_false]
                                  exact ⟨y, HTM.out.1, by rw [← HTM.out.2.2, hg2, decide_eq_true hg1]; simp⟩))
                                have hg3 : (1 : Int) < (cn : Int) := by omega
                                rw [hg2] at c0 e0 hW9
                                clear HST
                                go_upto_region 35 with (fail)
                                rw [← hW9]
                                clear hW9
                                go_wp2_with fail
                                go_ret
                                rw [HF.out]
                                exact ⟨rfl, HMW9.out⟩
                              · have HNO : Hid ((!(decide (1 < labN F y.label) && y.code == 6)) = true) := Lib.hid (by
                                  rw [← HTM.out.2.2]
                                  rcases hgo with ⟨-, h⟩ | h
                                  · rw [h]; simp
                                  · rw [decide_eq_false (by omega)]; rfl)
                                rcases hgo with ⟨hg1, hg2⟩ | hg1
                                all_goals
                                  go_upto_region 35 with (fail)
                                  rw [← hW9]
                                  clear hW9
                                  go_wp2_with fail
                                  go_at_call 31
                                  refine HST.out.mono ?_
                                  rintro e w ⟨rfl, hmw⟩
                                  have HMW := Lib.hid (HMW9.out.trans hmw)
                                  have HX := Lib.hid (HX9.out.trans hmw)
                                  clear hmw
                                  cases b with
                                  | false =>
                                    have HF : Hid (R = false) := Lib.hid (HNF.out (by
                                      rw [HRI.out, List.all_eq_false]
                                      exact ⟨y, HTM.out.1, by rw [← HTM.out.2.1]; simp⟩))
                                    go_wp2_with fail
                                    go_ret
                                    rw [HF.out]
                                    exact ⟨rfl, HMW.out⟩
                                  | true =>
                                    have HQ2 : Hid ((F.steps.take (i3 + 1)).all (fun s => !(decide (1 < labN F s.label) && s.code == 6) && refStepB L F s) = true) := Lib.hid (by
                                      rw [HTK.out, List.all_append, HQ.out, List.all_cons, HNO.out, ← HTM.out.2.1]
                                      rfl)
                                    go_wp2_with fail
                                    exact ⟨⟨i3 + 1, by omega, by go_num, HQ2, HX⟩, by simp [intOf]; omega⟩
                            · obtain rfl : i3 = m + 1 := by omega
                              have HOKF : Hid (refFnB L F = true) := Lib.hid (by
                                have h := HQ.out
                                rw [HTN.out.2, List.take_length] at h
                                rw [HRI.out, h])
                              have HA2 : Hid ((L.take (j + 1)).all (refFnB L) = true) := Lib.hid (by
                                rw [← HNX.out, List.all_append, HA.out, List.all_cons, HOKF.out]
                                rfl)
                              have HX := Lib.hid (HL7.out.trans HM8.out)
                              have hkk2 : ¬ ((m : Int) + 1 < (m : Int) + 1) := by omega
                              clear hks
                              go_wp2_with fail
                              exact ⟨⟨j + 1, by omega, by go_num, HA2, HX⟩, by simp [intOf]; omega⟩
end Go.Proofs.YtoajcbfejplfbaaDoor.MidP.R

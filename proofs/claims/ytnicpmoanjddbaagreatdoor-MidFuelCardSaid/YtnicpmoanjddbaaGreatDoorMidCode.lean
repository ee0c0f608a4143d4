/- Which steps may be a program. Conditions: what is asked lies; the tables lie as the program lays them. -/
import Derived.Test.YtnicpmoanjddbaaGreatDoorMidFun
namespace Go.Proofs.YtnicpmoanjddbaaGreatDoor.MidP
open Go.RowKit Go.Proofs.YtnicpmoanjddbaaGreatDoor.Wo Go.Maps Go.Proofs.YtnicpmoanjddbaaGreatDoor.TreeP
set_option linter.unusedVariables false
set_option linter.unusedSimpArgs false
theorem FmsAt.take {W : World} {S : Nat → Prop} {a : Option Addr} {n c : Nat} {L : List Fm} (h : FmsAt W S (.slice a n c) L) {i : Nat} (hi : i ≤ L.length) : FmsAt W S (.slice a i c) (L.take i) := by
  obtain ⟨a', c', h1, h3, h4, h5, h6⟩ := h
  obtain ⟨rfl, rfl, rfl⟩ := Value.slice.inj h1
  refine ⟨a, c, by rw [List.length_take, Nat.min_eq_left hi], by rw [List.length_take]; omega, h4, fun e => by rw [List.length_take]; have := h5 e; omega, fun j f hf => ?_⟩
  have hj : j < i := by
    have := (List.getElem?_eq_some_iff.1 hf).1
    rw [List.length_take] at this
    omega
  rw [List.getElem?_take_of_lt hj] at hf
  exact h6 j f hf
set_option maxRecDepth 100000 in
theorem twin_call (g : Fm) (nm : List UInt8) (q : Nat) (w : World) (fv : Value) (hq : w.cell? ⟨q, 0, none⟩ = some (str nm)) (hv : FmV w None g fv) :
    Calls Tryz.prog 25 #[fv, .pointer (some ⟨q, 0, none⟩)] w fun e w' => e = .returned (.bool (g.name == nm)) ∧ Mods None w w' := by
  obtain ⟨ta, tc, sa, sc, rfl, -, -⟩ := hv
  have hlt : q < w.heap.size := World.block_lt_of_cell? w _ hq
  have hne : q ≠ w.heap.size := by omega
  unfold str at *
  go_enter Tryz.func25, Tryz.ntmps25
  go_wp2
  go_ret
  exact ⟨by simp, (Mods.refl _ _).alloc _⟩
def mainP (f : Fm) : Bool := f.name == [109, 97, 105, 110] && f.params == 0
set_option maxRecDepth 100000 in
theorem main_call (g : Fm) (w : World) (fv : Value) (hv : FmV w None g fv) :
    Calls Tryz.prog 27 #[fv] w fun e w' => e = .returned (.bool (mainP g)) ∧ Mods None w w' := by
  obtain ⟨ta, tc, sa, sc, rfl, -, -⟩ := hv
  by_cases h1 : g.name = [109, 97, 105, 110]
  · have e1 : mainP g = (g.params == 0) := by unfold mainP; rw [h1]; rfl
    rw [e1, h1]
    unfold str
    go_enter Tryz.func27, Tryz.ntmps27
    go_wp2
    go_ret
    exact ⟨rfl, (Mods.refl _ _).alloc _⟩
  · have h2 : (g.name == [109, 97, 105, 110]) = false := by simpa using h1
    have e1 : mainP g = false := by unfold mainP; rw [h2]; rfl
    have h3 : ((⟨g.name.toArray⟩ : ByteArray) == ⟨#[109, 97, 105, 110]⟩) = false := by
      have := str_beq g.name [109, 97, 105, 110]
      rw [h2] at this
      exact this
    rw [e1]
    unfold str
    go_enter Tryz.func27, Tryz.ntmps27
    go_wp2
    go_ret
    exact ⟨rfl, (Mods.refl _ _).alloc _⟩
theorem heads_of : (A L : List Fm) → headsB A L = true → Heads L
  | A, [], h => fun g hg => by cases hg
  | A, f :: r, h => by
    unfold headsB at h
    split at h
    · cases h
    · rename_i hn
      intro g hg
      rcases List.mem_cons.1 hg with rfl | hg
      · constructor
        · exact Int.not_lt.1 fun h => hn (Or.inl h)
        · exact Int.not_lt.1 fun h => hn (Or.inr (Or.inl h))
      · exact heads_of _ r h g hg
theorem headsB_cons (A r : List Fm) (f : Fm) : headsB A (f :: r) = if f.params < 0 ∨ f.params > f.types.length ∨ A.any (fun g => g.name == f.name) then false else headsB (A ++ [f]) r := by rw [headsB]
theorem codeB_eq (L : List Fm) : codeB L = (decide (L.length ≤ 12) && headsB [] L && L.all (fnB L) && L.any mainP) := rfl
set_option maxRecDepth 100000 in
set_option maxHeartbeats 4000000 in
theorem rightc_any (L : List Fm) (cb : Nat) (lv : Value) (W : World) (hcb : W.cell? ⟨cb, 0, none⟩ = some lv) (hL : FmsAt W None lv L) (hFo : FormsAt W) (hOp : OpsAt W) (hlab : ∀ f ∈ L, ∀ s ∈ f.steps, I64 s.label) :
    Calls Tryz.prog 10 #[.pointer (some ⟨cb, 0, none⟩)] W fun e w => e = .returned (.bool (codeB L)) ∧ Mods None W w := by
  obtain ⟨R, hR⟩ : ∃ R, R = codeB L := ⟨_, rfl⟩
  have HR := Lib.hid (hR.trans (codeB_eq L))
  rw [← hR]
  have HALL := Lib.hid (fun (w : World) (hm : Mods None W w) => (⟨hm.cellOf hcb (fun f => f), hL.mods hm (fun _ _ k => k), hFo.mods hm, hOp.mods hm⟩ : w.cell? ⟨cb, 0, none⟩ = some lv ∧ FmsAt w None lv L ∧ FormsAt w ∧ OpsAt w))
  obtain ⟨la, lc, rfl, hlc1, hlc2, -⟩ := hL.form
  have HLAB := Lib.hid hlab
  obtain ⟨n, hn⟩ : ∃ n, n = L.length := ⟨_, rfl⟩
  have HN := Lib.hid hn
  rw [← hn] at hcb hlc1
  clear hL hFo hOp hlab hR hn
  go_enter Tryz.func10, Tryz.ntmps10
  by_cases h12 : 12 < n
  · have h12' : (12 : Int) < (n : Int) := by omega
    have HF : Hid (R = false) := Lib.hid (by rw [HR.out, ← HN.out, show decide (n ≤ 12) = false from decide_eq_false (by omega)]; rfl)
    go_wp2_with fail
    go_ret
    rw [HF.out]
    exact ⟨rfl, Mods.refl _ _⟩
  have h12' : ¬ (12 : Int) < (n : Int) := by omega
  have H12 := Lib.hid (show n ≤ 12 by omega)
  go_wp2_with fail
  clear hcb
  go_loopw [3, 4, 22] (fun _ _ iv wr => ∃ i : Nat, i ≤ n ∧ iv = .int .i64 i ∧ Hid (headsB (L.take i) (L.drop i) = headsB [] L) ∧ Hid (Mods None W wr)) (fun _ _ iv _ => (n - intOf iv).toNat)
  case atStart => exact ⟨0, Nat.zero_le _, rfl, Lib.hid rfl, Lib.hid (Mods.refl _ _)⟩
  case round =>
    obtain ⟨i, hi, rfl, HH, HM⟩ := hrel
    obtain ⟨b0, b1, b2, b3⟩ := HALL.out wr HM.out
    rw [← HN.out] at b0
    by_cases hlt : i < n
    · have hil : i < L.length := by have := HN.out; omega
      obtain ⟨g, o, ta, tc, sa, sc, rfl, c0, c1, c2, c3, hT, hS⟩ := b1.get hil
      have hFV : FmV wr None L[i] (.agg #[str L[i].name, .int .i64 L[i].params, .slice ta L[i].types.length tc, .slice sa L[i].steps.length sc]) := ⟨ta, tc, sa, sc, rfl, hT, hS⟩
      obtain ⟨f, hf⟩ : ∃ f, L[i]? = some f := ⟨_, List.getElem?_eq_getElem hil⟩
      have hfe : L[i] = f := by
        obtain ⟨h1, h2⟩ := List.getElem?_eq_some_iff.1 hf
        exact h2
      rw [hfe] at c0 c1 c2 c3
      have hdr := drop_one hf
      have htk : L.take i ++ [f] = L.take (i + 1) := by rw [List.take_succ_eq_append_getElem hil, hfe]
      have hH := HH.out
      rw [hdr] at hH
      rw [headsB_cons, htk] at hH
      obtain ⟨W5, hW5⟩ : ∃ W5, W5 = wr.alloc (.cells #[str f.name, .int .i64 f.params, .slice ta f.types.length tc, .slice sa f.steps.length sc] 55) := ⟨_, rfl⟩
      have hm5 : Mods None wr W5 := by rw [hW5]; exact (Mods.refl _ _).alloc _
      have hB5 : Blk W5 wr.heap.size [str f.name, .int .i64 f.params, .slice ta f.types.length tc, .slice sa f.steps.length sc] 55 := by rw [hW5]; exact Blk.new wr _ _
      have d0 := hB5.cell (i := 0) rfl
      have d1 := hB5.cell (i := 1) rfl
      have d2 := hB5.cell (i := 2) rfl
      have HM5 := Lib.hid (HM.out.trans hm5)
      obtain ⟨e0, e1, e2, e3⟩ := HALL.out W5 HM5.out
      rw [← HN.out] at e0
      have hpi : (i : Int) < (n : Int) := by omega
      have hic : (i : Int) ≤ (lc : Int) := by omega
      have HTW := Lib.hid (has_twin (L.take i) (.slice (some ⟨g, o, none⟩) i lc) wr.heap.size (fun g => g.name == f.name) W5 (by rw [← HN.out] at e1; exact e1.take (by omega)) (fun j hj w fv hm hv => twin_call _ f.name wr.heap.size w fv (hm.cellOf d0 (fun f => f)) hv))
      obtain ⟨tn, htn⟩ : ∃ tn, tn = f.types.length := ⟨_, rfl⟩
      obtain ⟨sn, hsn⟩ : ∃ sn, sn = f.steps.length := ⟨_, rfl⟩
      rw [← htn] at hH c2 d2 hW5
      rw [← hsn] at c3 hW5
      obtain ⟨z, hz⟩ : ∃ z, z = (L.take i).any (fun g => g.name == f.name) := ⟨_, rfl⟩
      rw [← hz] at HTW hH
      have HLE := Lib.hid (show i < n from hlt)
      have hmf : ∀ (fn : Go.Fn) (first cap : Array Value) (w : World), (Instr.makeFunc fn first cap).run Tryz.prog w = .ok (.func fn first cap) w := fun _ _ _ _ => rfl
      unfold str at *
      clear hT hS hFV hf hfe hdr htk hm5 hB5 e1 e2 e3 b1 b2 b3 htn hsn hz hil d0
      by_cases hp0 : f.params < 0
      · have HF : Hid (R = false) := Lib.hid (by rw [HR.out, ← hH, if_pos (Or.inl hp0)]; simp)
        clear hH
        go_upto_region 6 with (fail)
        rw [← hW5]
        clear hW5
        go_wp2_with fail
        go_ret
        rw [HF.out]
        exact ⟨rfl, HM5.out⟩
      by_cases hp1 : (tn : Int) < f.params
      · have HF : Hid (R = false) := Lib.hid (by rw [HR.out, ← hH, if_pos (Or.inr (Or.inl hp1))]; simp)
        clear hH
        go_upto_region 6 with (fail)
        rw [← hW5]
        clear hW5
        go_wp2_with fail
        go_ret
        rw [HF.out]
        exact ⟨rfl, HM5.out⟩
      have hgt : f.params > tn ↔ (tn : Int) < f.params := Iff.rfl
      cases z
      · have HH2 : Hid (headsB (L.take (i + 1)) (L.drop (i + 1)) = headsB [] L) := Lib.hid (by rw [← hH, if_neg (by simp; exact ⟨Int.not_lt.1 hp0, Int.not_lt.1 hp1⟩)])
        clear hH hgt
        go_upto_region 6 with (fail)
        rw [← hW5]
        clear hW5
        go_wp2_with fail
        go_at_call 24
        refine HTW.out.mono ?_
        rintro e w6 ⟨rfl, hm6⟩
        have HM6 := Lib.hid (HM5.out.trans hm6)
        clear hm6
        have hlt2 := HLE.out
        go_wp2_with fail
        exact ⟨⟨i + 1, by omega, by go_num, HH2, HM6⟩, by simp [intOf]; omega⟩
      · have HF : Hid (R = false) := Lib.hid (by rw [HR.out, ← hH, if_pos (Or.inr (Or.inr rfl))]; simp)
        clear hH hgt
        go_upto_region 6 with (fail)
        rw [← hW5]
        clear hW5
        go_wp2_with fail
        go_at_call 24
        refine HTW.out.mono ?_
        rintro e w6 ⟨rfl, hm6⟩
        have HM6 := Lib.hid (HM5.out.trans hm6)
        clear hm6
        go_wp2_with fail
        go_ret
        rw [HF.out]
        exact ⟨rfl, HM6.out⟩
    · obtain rfl : i = n := by omega
      have hh : headsB [] L = true := by
        have := HH.out
        rw [HN.out, List.drop_length] at this
        rw [← this]
        cases L.take L.length <;> rfl
      have HHD := Lib.hid (heads_of [] L hh)
      have HR2 : Hid (R = (L.all (fnB L) && L.any mainP)) := Lib.hid (by rw [HR.out, hh, ← HN.out, show decide (i ≤ 12) = true from decide_eq_true H12.out]; simp)
      have hpi : ¬ (i : Int) < (i : Int) := by omega
      have HM0 := HM
      clear hh HH HM b1 b2 b3
      go_wp2_with fail
      clear b0 hpi
      go_loopw [6, 54] (fun _ iv wr => ∃ k : Nat, k ≤ i ∧ iv = .int .i64 k ∧ Hid ((L.take k).all (fnB L) = true) ∧ Hid (Mods None W wr)) (fun _ iv _ => (i - intOf iv).toNat)
      case atStart => exact ⟨0, Nat.zero_le _, rfl, Lib.hid (by simp), HM0⟩
      case round =>
        clear HM0
        obtain ⟨k, hk, rfl, HA, HM⟩ := hrel
        obtain ⟨w1, rfl⟩ : ∃ w1, w1 = wr := ⟨_, rfl⟩
        obtain ⟨b0, b1, b2, b3⟩ := HALL.out w1 HM.out
        rw [← HN.out] at b0
        by_cases hlt : k < i
        · have hil : k < L.length := by have := HN.out; omega
          obtain ⟨g, o, ta, tc, sa, sc, rfl, c0, c1, c2, c3, hT, hS⟩ := b1.get hil
          obtain ⟨f, hf⟩ : ∃ f, L[k]? = some f := ⟨_, List.getElem?_eq_getElem hil⟩
          have hfe : L[k] = f := by
            obtain ⟨h1, h2⟩ := List.getElem?_eq_some_iff.1 hf
            exact h2
          rw [hfe] at c0 c1 c2 c3 hT hS
          obtain ⟨W5, hW5⟩ : ∃ W5, W5 = w1.alloc (.cells #[str f.name, .int .i64 f.params, .slice ta f.types.length tc, .slice sa f.steps.length sc] 55) := ⟨_, rfl⟩
          have hm5 : Mods None w1 W5 := by rw [hW5]; exact (Mods.refl _ _).alloc _
          have hB5 : Blk W5 w1.heap.size [str f.name, .int .i64 f.params, .slice ta f.types.length tc, .slice sa f.steps.length sc] 55 := by rw [hW5]; exact Blk.new w1 _ _
          have d0 := hB5.cell (i := 0) rfl
          have d1 := hB5.cell (i := 1) rfl
          have d2 := hB5.cell (i := 2) rfl
          have d3 := hB5.cell (i := 3) rfl
          have HM5 := Lib.hid (HM.out.trans hm5)
          obtain ⟨e0, e1, e2, e3⟩ := HALL.out W5 HM5.out
          have HFN := Lib.hid (function_any L f cb _ (.agg #[str f.name, .int .i64 f.params, .slice ta f.types.length tc, .slice sa f.steps.length sc]) W5 e0 e1 HHD.out ⟨ta, tc, sa, sc, rfl, hT.mods hm5 (fun _ _ k => k), hS.mods hm5 (fun _ _ k => k)⟩ e2 e3 (HLAB.out f (List.mem_of_getElem? hf)))
          have hpi : (k : Int) < (i : Int) := by omega
          have htk : (L.take (k + 1)).all (fnB L) = ((L.take k).all (fnB L) && fnB L f) := by
            rw [List.take_succ_eq_append_getElem hil, List.all_append, hfe]
            simp
          have hmem : f ∈ L := List.mem_of_getElem? hf
          obtain ⟨z, hz⟩ : ∃ z, z = fnB L f := ⟨_, rfl⟩
          rw [← hz] at HFN htk
          have HLE := Lib.hid (And.intro hlt (And.intro hmem hz))
          have hT0 := htk
          have HTK := Lib.hid htk
          unfold str at *
          clear hT hS hf hfe hm5 hB5 e0 e1 e2 e3 b1 b2 b3 hil htk hT0 hz hmem hlt
          go_upto_region 12 with (fail)
          rw [← hW5]
          clear hW5
          go_wp2_with fail
          go_at_call 26
          refine HFN.out.mono ?_
          rintro e w6 ⟨rfl, hm6⟩
          have HM6 := Lib.hid (HM5.out.trans hm6)
          clear hm6 HFN
          cases z
          · have HF : Hid (R = false) := Lib.hid (by
              have h1 : L.all (fnB L) = false := by
                rw [List.all_eq_false]
                exact ⟨f, HLE.out.2.1, by rw [← HLE.out.2.2]; simp⟩
              rw [HR2.out, h1]
              rfl)
            go_wp2_with fail
            go_ret
            rw [HF.out]
            exact ⟨rfl, HM6.out⟩
          · have HA2 : Hid ((L.take (k + 1)).all (fnB L) = true) := Lib.hid (by rw [HTK.out, HA.out]; rfl)
            have hlt := HLE.out.1
            go_wp2_with fail
            exact ⟨⟨k + 1, by omega, by go_num, HA2, HM6⟩, by simp [intOf]; omega⟩
        · obtain rfl : k = i := by omega
          have hpi : ¬ (k : Int) < (k : Int) := by omega
          have hall : L.all (fnB L) = true := by
            have := HA.out
            rwa [List.take_of_length_le (by have := HN.out; omega)] at this
          have HR3 : Hid (R = L.any mainP) := Lib.hid (by rw [HR2.out, hall]; rfl)
          have HMA := Lib.hid (has_main L (.slice la k lc) mainP w1 (by rw [← HN.out] at b1; exact b1) (fun j hj w fv hm hv => main_call _ w fv hv))
          obtain ⟨z, hz⟩ : ∃ z, z = L.any mainP := ⟨_, rfl⟩
          rw [← hz] at HMA HR3
          clear hz hall b1 b2 b3 HA
          go_wp2_with fail
          go_at_call 24
          refine HMA.out.mono ?_
          rintro e w6 ⟨rfl, hm6⟩
          have HM6 := Lib.hid (HM.out.trans hm6)
          clear hm6
          go_wp2_with fail
          go_ret
          rw [HR3.out]
          exact ⟨rfl, HM6.out⟩
end Go.Proofs.YtnicpmoanjddbaaGreatDoor.MidP

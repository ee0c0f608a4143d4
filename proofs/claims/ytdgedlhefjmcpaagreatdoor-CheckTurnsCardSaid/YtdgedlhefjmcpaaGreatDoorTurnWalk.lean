/- The law CheckTurns walked. Conditions: the variables lie as the program lays them. -/
import Derived.Test.YtdgedlhefjmcpaaGreatDoorChkRun
import Derived.Test.YtdgedlhefjmcpaaGreatDoorTurnPlain
import Derived.Test.YtdgedlhefjmcpaaGreatDoorRead
import Derived.Test.YtdgedlhefjmcpaaGreatDoorPick
import Derived.Test.YtdgedlhefjmcpaaGreatDoorErrAt
import Derived.Test.YtdgedlhefjmcpaaGreatDoorTreePar
namespace Go.Proofs.YtdgedlhefjmcpaaGreatDoor.TreeP
open Go.RowKit Go.Proofs.YtdgedlhefjmcpaaGreatDoor.Wo
set_option linter.unusedVariables false
set_option linter.unusedSimpArgs false
theorem FnAt.len4 {W : World} {S : Nat → Prop} {x : Fn} {cs : List Value} (h : FnAt W S x cs) : cs.length = 4 := by
  obtain ⟨p, q, vq, rfl, _⟩ := h
  rfl
theorem FnsAt.split {W : World} {S : Nat → Prop} : {l : List Fn} → {vs : List Value} → FnsAt W S l vs → (k : Nat) → k ≤ l.length → FnsAt W S (l.take k) (vs.take (4 * k)) ∧ FnsAt W S (l.drop k) (vs.drop (4 * k))
  | l, vs, h, 0, _ => by simpa [FnsAt] using h
  | [], vs, h, k + 1, hk => by simp at hk
  | x :: l, vs, h, k + 1, hk => by
    obtain ⟨cs, r, rfl, h1, h2⟩ := h
    have h4 := h1.len4
    obtain ⟨a1, a2⟩ := FnsAt.split h2 k (by simpa using hk)
    rw [show 4 * (k + 1) = cs.length + 4 * k by omega, List.take_length_add_append, List.drop_length_add_append]
    exact ⟨⟨cs, _, rfl, h1, a1⟩, a2⟩
theorem FnsAt.join {W : World} {S : Nat → Prop} : {l m : List Fn} → {vs us : List Value} → FnsAt W S l vs → FnsAt W S m us → FnsAt W S (l ++ m) (vs ++ us)
  | [], m, vs, us, h, h2 => by
    simp only [FnsAt] at h
    subst h
    exact h2
  | x :: l, m, vs, us, h, h2 => by
    obtain ⟨cs, r, rfl, h3, h4⟩ := h
    exact ⟨cs, r ++ us, by simp, h3, FnsAt.join h4 h2⟩
theorem FnsAt.len {W : World} {S : Nat → Prop} : {l : List Fn} → {vs : List Value} → FnsAt W S l vs → vs.length = 4 * l.length
  | [], vs, h => by
    simp only [FnsAt] at h
    subst h
    rfl
  | x :: l, vs, h => by
    obtain ⟨cs, r, rfl, h3, h4⟩ := h
    have := h3.len4
    have := FnsAt.len h4
    simp only [List.length_append, List.length_cons]
    omega
theorem FnsAt.one {W : World} {S : Nat → Prop} : {l : List Fn} → {vs : List Value} → FnsAt W S l vs → ∀ u ∈ vs, u.oneCell' = true
  | [], vs, h => by
    simp only [FnsAt] at h
    subst h
    exact fun u hu => nomatch hu
  | x :: l, vs, h => by
    obtain ⟨cs, r, rfl, h3, h4⟩ := h
    obtain ⟨oa, on, oc, ob, om, od, rfl⟩ := h3.shape
    intro u hu
    rcases List.mem_append.1 hu with hu | hu
    · simp only [List.mem_cons, List.not_mem_nil, or_false] at hu
      rcases hu with rfl | rfl | rfl | rfl <;> rfl
    · exact FnsAt.one h4 u hu
theorem FnsAt.get {W : World} {S : Nat → Prop} : {l : List Fn} → {vs : List Value} → FnsAt W S l vs → (i : Nat) → (x : Fn) → l[i]? = some x → ∃ cs, FnAt W S x cs ∧ ∀ j, j < 4 → vs[i * 4 + j]? = cs[j]?
  | [], vs, h, i, x, hx => by simp at hx
  | a :: l, vs, h, i, x, hx => by
    obtain ⟨cs, r, rfl, h1, h2⟩ := h
    have h4 := h1.len4
    cases i with
    | zero =>
      simp only [List.getElem?_cons_zero, Option.some.injEq] at hx
      subst hx
      refine ⟨cs, h1, fun j hj => ?_⟩
      rw [List.getElem?_append_left (by omega)]
      congr 1
      omega
    | succ i =>
      obtain ⟨ds, h3, h5⟩ := FnsAt.get h2 i x (by simpa using hx)
      refine ⟨ds, h3, fun j hj => ?_⟩
      rw [List.getElem?_append_right (by omega), h4, ← h5 j hj]
      congr 1
      omega
theorem fs_of_row {W : World} {S : Nat → Prop} {B : Nat} {v : Value} {l : List Fn} {vs : List Value} (h : W.ownsRow B 33 4 v l.length vs) (hf : FnsAt W S l vs) (hS : ∀ k, v.ownBlock = some k → ¬ S k) : FsAt W S v l := by
  rcases h.2 with ⟨rfl, h0⟩ | ⟨g, cap, cur, rfl, _, hg, h3, h4, _⟩
  · have hl : l = [] := List.eq_nil_of_length_eq_zero h0
    subst hl
    exact ⟨none, 0, 0, rfl, rfl, Nat.le_refl _, by decide, fun _ => rfl, fun i p hp => by simp at hp⟩
  · have hc := h.cells (g := g) rfl
    refine ⟨some ⟨g, 0, none⟩, l.length, cap, rfl, rfl, h3, h4, (fun h => by cases h), fun i x hx => ?_⟩
    obtain ⟨cs, h5, h6⟩ := hf.get i x hx
    obtain ⟨p, q, vq, rfl, h7, h8, h9⟩ := h5
    have e0 := hc _ _ (h6 0 (by omega))
    have e1 := hc _ _ (h6 1 (by omega))
    have e2 := hc _ _ (h6 2 (by omega))
    have e3 := hc _ _ (h6 3 (by omega))
    refine ⟨g, 0, p, q, vq, rfl, hS g rfl, ?_, ?_, ?_, ?_, h7, h8, h9⟩
    · simpa [Addr.add_lit] using e0
    · simpa [Addr.add_lit] using e1
    · simpa [Addr.add_lit] using e2
    · simpa [Addr.add_lit] using e3
theorem Prg.fs {W : World} {l : List Fn} {v : Value} (h : Prg W l v) : FsAt W None v l := by
  obtain ⟨vs, h1, h2⟩ := h
  exact fs_of_row h1.1 h2 (fun _ _ f => f)
/-- Whether something is found. -/
theorem check_out (L : List Fn) (v : Value) (W : World) (hL : FsAt W None v L) :
    Calls Tryz.prog 12 #[v] W fun e w => ((checkOk L ∧ e = .returned .nilIface) ∨ (¬ checkOk L ∧ ∃ t p, e = .returned (.iface t p))) ∧ Mods None W w := by
  refine (check_any L v W hL).mono ?_
  intro e w h
  have hi := checkOk_iff L
  have hr : checkR L = bindK (twiceK [] L) (fun _ => bindK (fnsK L L) fun _ => .ok (L.any mainB)) := rfl
  rw [← hr] at hi
  cases hx : checkR L with
  | error q =>
    obtain ⟨n, a⟩ := q
    rw [hx] at h hi
    obtain ⟨g, rfl, _, hm⟩ := h
    exact ⟨Or.inr ⟨(fun h => by cases hi.2 h), _, _, rfl⟩, hm⟩
  | ok b =>
    rw [hx] at h hi
    cases b
    · obtain ⟨rfl, hm⟩ := h
      exact ⟨Or.inr ⟨(fun h => by cases hi.2 h), _, _, rfl⟩, hm⟩
    · obtain ⟨rfl, hm⟩ := h
      exact ⟨Or.inl ⟨hi.1 rfl, rfl⟩, hm⟩
def turnS : List UInt8 := List.append [102, 110, 32, 109, 97, 105, 110, 40, 41, 32, 123, 32, 118, 97, 114, 32, 97, 32, 61, 32, 110, 101, 119, 40, 51, 41, 59, 32, 97, 91, 48, 93, 32, 61, 32, 108, 101, 110, 40, 97, 41, 59, 32] [114, 101, 116, 117, 114, 110, 32, 102, 40, 97, 41, 59, 32, 125, 32, 102, 110, 32, 102, 40, 120, 58, 32, 97, 114, 114, 41, 32, 123, 32, 114, 101, 116, 117, 114, 110, 32, 120, 91, 48, 93, 59, 32, 125]
def turnT : List UInt8 := [102, 110, 32, 109, 97, 105, 110, 40, 41, 32, 123, 32, 114, 101, 116, 117, 114, 110, 32, 98, 59, 32, 125]
theorem turn_read : ReadTo turnS (.ok (progOf turnS)) := reads_of (by kernel_rfl)
theorem turn_read2 : ReadTo turnT (.ok (progOf turnT)) := reads_of (by kernel_rfl)
theorem turn_ok : checkR (progOf turnS) = .ok true := by kernel_rfl
theorem turn_no : checkR (progOf turnT) = .error (7, 19) := by kernel_rfl
set_option maxRecDepth 100000 in
set_option maxHeartbeats 1000000 in
theorem checked_yes (W : World) (hL : All W) (hE : ErrP.ErrLaid W) : Calls Tryz.prog 10 #[] W fun e w => e = .returned (.bool true) ∧ Mods None W w := by
  have HP := Lib.hid (parse_good W hL (by decide) turn_read)
  have HP2 := Lib.hid (fun (w : World) (hm : Mods None W w) => parse_good w (hL.next hm) (by decide) turn_read2)
  have HK := Lib.hid (fun (v : Value) (w : World) (hf : FsAt w None v (progOf turnS)) => (by
    have := check_any (progOf turnS) v w hf
    rw [turn_ok] at this
    exact this : Calls Tryz.prog 12 #[v] w fun e w' => e = .returned .nilIface ∧ Mods None w w'))
  have HK2 := Lib.hid (fun (v : Value) (w : World) (hf : FsAt w None v (progOf turnT)) => (by
    have := check_any (progOf turnT) v w hf
    rw [turn_no] at this
    exact this : Calls Tryz.prog 12 #[v] w fun e w' => ∃ g, e = .returned (.iface 136 (.pointer (some ⟨g, 0, none⟩))) ∧ Blk w' g [.int .i64 7, .int .i64 19] 137 ∧ Mods None w w'))
  have HE := Lib.hid (fun (w : World) (hm : Mods None W w) => (hm.cellOf hE (fun f => f) : ErrP.ErrLaid w))
  generalize hn1 : (progOf turnS).length = n1 at HP
  generalize hn2 : (progOf turnT).length = n2 at HP2
  clear hn1 hn2 hL hE
  unfold str turnS at HP
  unfold str turnT at HP2
  go_enter Tryz.func10, Tryz.ntmps10
  go_wp2_with fail
  go_at_call 11
  refine HP.out.mono ?_
  rintro e w1 ⟨a, c, rfl, hv, hm1⟩
  have HM1 := Lib.hid hm1
  have HKK := Lib.hid (HK.out _ _ hv.fs)
  clear hv hm1 HP HK
  go_wp2_with fail
  go_at_call 12
  refine HKK.out.mono ?_
  rintro e w2 ⟨rfl, hm2⟩
  have HM2 := Lib.hid (HM1.out.trans hm2)
  have HPP := Lib.hid (HP2.out _ HM2.out)
  clear hm2 HKK HP2
  go_wp2_with fail
  go_at_call 11
  refine HPP.out.mono ?_
  rintro e w3 ⟨a3, c3, rfl, hv3, hm3⟩
  have HM3 := Lib.hid (HM2.out.trans hm3)
  have HKK := Lib.hid (HK2.out _ _ hv3.fs)
  clear hv3 hm3 HPP HK2
  go_wp2_with fail
  go_at_call 12
  refine HKK.out.mono ?_
  rintro e w4 ⟨g, rfl, hb, hm4⟩
  have HM4 := Lib.hid (HM3.out.trans hm4)
  have HB := Lib.hid hb
  clear hm4 hb HKK
  go_wp2_with fail
  go_at_call 29
  refine (ErrP.tell_at _ _ _ _ (HE.out _ HM4.out) HB.out).mono ?_
  rintro e w5 ⟨rfl, hm5⟩
  have HM5 := Lib.hid (HM4.out.trans hm5)
  clear hm5
  go_wp2_with fail
  go_ret
  exact ⟨rfl, HM5.out⟩
set_option maxRecDepth 100000 in
set_option maxHeartbeats 4000000 in
theorem checkTurns_walk (s : List UInt8) (by_ : Int) (W : World) (hL : All W) (hE : ErrP.ErrLaid W) : Calls Tryz.prog 3 #[str s, .int .i64 by_] W fun e w => e = .returned (.bool true) ∧ Mods None W w := by
  by_cases hs : 1500 < s.length
  · clear hL hE
    unfold str
    go_enter Tryz.func3, Tryz.ntmps3
    go_wp2_with fail
    go_ret
    exact ⟨rfl, Mods.refl _ _⟩
  have HF := Lib.hid (checked_yes W hL hE)
  obtain ⟨x, hx⟩ := read_any s
  cases x with
  | error p =>
    have HP := Lib.hid (fun (w : World) (hm : Mods None W w) => parse_read w (hL.next hm) (by omega) hx)
    clear hL hE hx
    obtain ⟨pn, pa⟩ := p
    unfold str at *
    go_enter Tryz.func3, Tryz.ntmps3
    go_wp2_with fail
    go_at_call 10
    refine HF.out.mono ?_
    rintro e w1 ⟨rfl, hm1⟩
    have HM1 := Lib.hid hm1
    clear hm1
    go_wp2_with fail
    go_at_call 11
    refine (HP.out _ HM1.out).mono ?_
    rintro e w2 ⟨g, rfl, hb, hm2⟩
    have HM2 := Lib.hid (HM1.out.trans hm2)
    clear hb hm2
    go_wp2_with fail
    go_ret
    exact ⟨rfl, HM2.out⟩
  | ok l =>
    have hp := read_prog hx
    have hn12 := hp.few
    have HP := Lib.hid (fun (w : World) (hm : Mods None W w) => parse_good w (hL.next hm) (by omega) hx)
    clear hL hE hx hp
    by_cases h0 : l.length = 0
    · rw [h0] at HP
      unfold str at *
      go_enter Tryz.func3, Tryz.ntmps3
      go_wp2_with fail
      go_at_call 10
      refine HF.out.mono ?_
      rintro e w1 ⟨rfl, hm1⟩
      have HM1 := Lib.hid hm1
      clear hm1
      go_wp2_with fail
      go_at_call 11
      refine (HP.out _ HM1.out).mono ?_
      rintro e w2 ⟨a2, c2, rfl, hv2, hm2⟩
      have HM2 := Lib.hid (HM1.out.trans hm2)
      clear hv2 hm2
      go_wp2_with fail
      go_ret
      exact ⟨rfl, HM2.out⟩
    obtain ⟨n, hn⟩ : ∃ n, n = l.length := ⟨_, rfl⟩
    rw [← hn] at HP hn12 h0
    have HN := Lib.hid hn
    clear hn
    have hn0 : ((n : Int) == 0) = false := by simp; omega
    by_cases hck : checkOk l
    · have HCK := Lib.hid hck
      clear hck
      unfold str at *
      go_enter Tryz.func3, Tryz.ntmps3
      go_wp2_with fail
      go_at_call 10
      refine HF.out.mono ?_
      rintro e w1 ⟨rfl, hm1⟩
      have HM1 := Lib.hid hm1
      clear hm1
      go_wp2_with fail
      go_at_call 11
      refine (HP.out _ HM1.out).mono ?_
      rintro e w2 ⟨a2, c2, rfl, hv2, hm2⟩
      have HM2 := Lib.hid (HM1.out.trans hm2)
      have HV := Lib.hid hv2
      have HC := Lib.hid (check_out l _ _ hv2.fs)
      clear hm2 hv2 HP HF
      go_wp2_with fail
      go_at_call 12
      refine HC.out.mono ?_
      rintro e w3 ⟨he, hm3⟩
      obtain ⟨_, rfl⟩ | ⟨h, _⟩ := he
      rotate_left
      · exact absurd HCK.out h
      have HM3 := Lib.hid (HM2.out.trans hm3)
      have HV3 := Lib.hid (HV.out.next hm3)
      clear hm3 HC HV
      have HPK := Lib.hid (pick_any by_ n w3 (by omega) (by omega))
      obtain ⟨hk0, hk1⟩ := pkn_in by_ n (by omega)
      obtain ⟨k, hk⟩ : ∃ k : Nat, pkn by_ n = k := ⟨(pkn by_ n).toNat, by omega⟩
      rw [hk] at HPK hk0 hk1
      go_wp2_with fail
      go_at_call 13
      refine HPK.out.mono ?_
      rintro e w4 ⟨rfl, rfl⟩
      clear HPK hk
      obtain ⟨vs, hrow, hfs⟩ := HV3.out
      obtain ⟨g, c, hsl, hgw, hnc, hcm, hcells⟩ : ∃ g c, (.slice a2 n c2 : Value) = .slice (some ⟨g, 0, none⟩) n c ∧ g < w3.heap.size ∧ n ≤ c ∧ c ≤ maxLen ∧ ∀ j u, vs[j]? = some u → w3.cell? ⟨g, j, none⟩ = some u := by
        rcases hrow.1.2 with ⟨e, h00⟩ | ⟨g, cap, cur, e, _, hg, h3, h4, _⟩
        · have := HN.out; omega
        · have hc := hrow.1.cells (g := g) (by rw [e]; rfl)
          refine ⟨g, cap, by rw [HN.out]; simpa [HN.out] using e, lt_of_block hg, by rw [HN.out]; exact h3, h4, fun j u hj => by simpa [Addr.add_lit] using hc j u hj⟩
      obtain ⟨rfl, -, rfl⟩ := Value.slice.inj hsl
      have hgn : g ≠ w3.heap.size := by omega
      have hkn : k < n := by omega
      have hmx := hcm
      unfold maxLen at hmx
      obtain ⟨i0, hi, hz0, hz1, hz2⟩ := info_parts func_info
      have HI := Lib.hid (⟨hi, hz0, hz1, hz2⟩ : _ ∧ _ ∧ _ ∧ _)
      have HKN := Lib.hid (⟨hkn, hn12⟩ : _ ∧ _)
      have hlv := hfs.len
      obtain ⟨hfs1, hfs2⟩ := hfs.split k (by rw [← HN.out]; omega)
      have HFS := Lib.hid (⟨hfs1, hfs2, hfs, hlv⟩ : _ ∧ _ ∧ _ ∧ _)
      have HCE := Lib.hid (fun (w : World) (hm : Mods None w3 w) (j : Nat) (u : Value) (hj : vs[j]? = some u) => (hm.cellOf (hcells j u hj) (fun f => f) : w.cell? ⟨g, j, none⟩ = some u))
      have HNW1 := Lib.hid (fun (w : World) (hm : Mods None w3 w) (j : Nat) (u : Value) (hj : (vs.drop (4 * k))[j]? = some u) => (by
        rw [List.getElem?_drop] at hj
        have := HCE.out w hm _ u hj
        rw [show 4 * k + j = k * 4 + j by omega] at this
        simpa [Addr.add_lit] using this : w.cell? ((⟨g, k * 4, none⟩ : Addr).add j) = some u))
      have HNW2 := Lib.hid (fun (w : World) (hm : Mods None w3 w) (j : Nat) (u : Value) (hj : (vs.take (4 * k))[j]? = some u) => (by
        rw [List.getElem?_take] at hj
        split at hj
        · have := HCE.out w hm _ u hj
          simpa [Addr.add_lit] using this
        · exact (nomatch hj) : w.cell? ((⟨g, 0, none⟩ : Addr).add j) = some u))
      have HON1 : Hid (∀ u ∈ vs.drop (4 * k), u.oneCell' = true) := Lib.hid hfs2.one
      have HON2 : Hid (∀ u ∈ vs.take (4 * k), u.oneCell' = true) := Lib.hid hfs1.one
      have HL1 : Hid ((vs.drop (4 * k)).length = (n - k) * 4 ∧ (vs.take (4 * k)).length = k * 4) := Lib.hid (by
        rw [List.length_drop, List.length_take, hlv, ← HN.out]
        omega)
      clear hi hz0 hz1 hz2 hfs hlv hfs1 hfs2 hcells hrow
      have hkle : k ≤ n := by omega
      have hkc : k ≤ c2 := by omega
      have hckn : ¬ c2 = k := by omega
      go_wp2_with fail
      go_region_law (first | (refine step_append_at rfl (.tmp 37) (.tmp 40) 23 rfl w3.heap.size 33 i0 _ 4 72 Tryz.underlying23 HI.out.1 HI.out.2.1 HI.out.2.2.1 HI.out.2.2.2 rfl (by decide) (.slice (some ⟨w3.heap.size, 0, none⟩) 0 0) 0 [] (by simp [Act.eval, Act.put]) ⟨rfl, Or.inr ⟨w3.heap.size, 0, #[], rfl, Nat.le_refl _, heap_alloc_new w3 _, Nat.le_refl _, by decide, rfl, rfl⟩⟩ ⟨g, k * 4, none⟩ (n - k) (c2 - k) (vs.drop (4 * k)) (by simp [Act.eval, Act.put]) HL1.out.1 (fun j u hj => HNW1.out _ ((Mods.refl None w3).alloc _) j u hj) HON1.out (by have := HKN.out; unfold maxLen; omega) (by have := HKN.out; omega) (by simp) ?_; intro v5 w5 hown hgrow hloc; have HOW := Lib.hid hown; have HM5 : Hid (Mods None w3 w5) := Lib.hid (((Mods.refl None w3).alloc (.cells #[] 33)).drew.trans' (Mods.of_grownBy (S := (· = w3.heap.size)) hgrow (fun q hq _ => (Option.some.inj hq).symm)) (by rintro q rfl hq; omega)); clear hown hgrow hloc) | (refine step_append_at rfl (.tmp 41) (.tmp 44) 23 rfl w3.heap.size 33 i0 _ 4 72 Tryz.underlying23 HI.out.1 HI.out.2.1 HI.out.2.2.1 HI.out.2.2.2 rfl (by decide) v5 (0 + (n - k)) _ (by simp [Act.eval, Act.put]) HOW.out ⟨g, 0, none⟩ k c2 (vs.take (4 * k)) (by simp [Act.eval, Act.put]) HL1.out.2 (fun j u hj => HNW2.out _ HM5.out j u hj) HON2.out (by have := HKN.out; unfold maxLen; omega) (by have := HKN.out; omega) HM5.out.size ?_; intro v6 w6 hown hgrow hloc; have HOW6 := Lib.hid hown; have HM6 : Hid (Mods None w3 w6) := Lib.hid (HM5.out.trans' (Mods.of_grownBy (S := fun q => v5.ownBlock = some q) hgrow (fun q hq _ => hq)) (fun q hq hk => by have := (HOW.out.lt q hq).1; omega)); clear hown hgrow hloc))
      all_goals
        have hfs6 : FnsAt w6 None (l.drop k ++ l.take k) ([] ++ vs.drop (4 * k) ++ vs.take (4 * k)) := FnsAt.join (FnsAt.modsTo HM6.out (fun _ _ k => k) _ _ HFS.out.2.1) (FnsAt.modsTo HM6.out (fun _ _ k => k) _ _ HFS.out.1)
        have hrow6 := HOW6.out
        rw [show 0 + (n - k) + k = (l.drop k ++ l.take k).length by have := HKN.out; rw [List.length_append, List.length_drop, List.length_take, ← HN.out]; omega] at hrow6
        have HT := Lib.hid (check_out (l.drop k ++ l.take k) v6 w6 (fs_of_row hrow6 hfs6 (fun _ _ f => f)))
        have HM36 := Lib.hid (HM3.out.trans HM6.out)
        clear hfs6 hrow6 HOW HM5 HON1 HON2 HNW1 HNW2 HL1 HOW6
        go_wp2_with fail
        go_at_call 12
        refine HT.out.mono ?_
        rintro e w7 ⟨he, hm7⟩
        obtain ⟨_, rfl⟩ | ⟨h, _⟩ := he
        rotate_left
        · exact absurd (checkOk_turn k HCK.out) h
        have HM7 := Lib.hid (HM6.out.trans hm7)
        clear hm7 HT HM6 HM36 hkn hkle hkc hckn hk0 hk1
        go_wp2_with fail
        have hlv : l.length = n := HN.out.symm
        have HLV := Lib.hid hlv
        clear hlv
        go_loopw [9, 10] (fun lv iv wr => ∃ (i : Nat) (us : List Value), i ≤ n ∧ iv = .int .i64 i ∧ Hid (FnsAt w3 None ((l.take i).filter (fun f => f.name != [109, 97, 105, 110])) us) ∧ Hid (wr.ownsRow w7.heap.size 33 4 lv ((l.take i).filter (fun f => f.name != [109, 97, 105, 110])).length us) ∧ Hid (Mods None w7 wr)) (fun _ iv _ => (n - intOf iv).toNat)
        case atStart => exact ⟨0, [], Nat.zero_le _, rfl, Lib.hid (by simp [FnsAt]), Lib.hid (World.ownsRow_nil _ _ _ _), Lib.hid (Mods.refl _ _)⟩
        case round =>
          obtain ⟨i, us, hi, rfl, HU, HOW, HMR⟩ := hrel
          obtain ⟨m, hmm⟩ : ∃ m, m = ((l.take i).filter (fun f => f.name != [109, 97, 105, 110])).length := ⟨_, rfl⟩
          have hm12 : m ≤ 12 := by
            have := List.length_filter_le (fun f : Fn => f.name != [109, 97, 105, 110]) (l.take i)
            rw [List.length_take] at this
            omega
          have how := HOW.out
          rw [← hmm] at how
          have HOW' := Lib.hid how
          clear how HOW
          have HMT := Lib.hid (HM7.out.trans HMR.out)
          by_cases hlt : i < n
          · obtain ⟨x, hx⟩ : ∃ x, l[i]? = some x := ⟨l[i]'(by rw [HLV.out]; exact hlt), List.getElem?_eq_getElem _⟩
            have hpi : (i : Int) < (n : Int) := by omega
            obtain ⟨cs, hcs, hcv⟩ := HFS.out.2.2.1.get i x hx
            have HCS := Lib.hid hcs
            obtain ⟨p, q, vq, rfl, h7, h8, h9⟩ := hcs
            obtain ⟨pa, pn, pc, rfl⟩ := h7.form
            obtain ⟨qa, qn, qc, rfl⟩ := h8.form
            have c0 : wr.cell? ⟨g, i * 4, none⟩ = some (str x.name) := HCE.out wr HMT.out _ _ (hcv 0 (by omega))
            have c1 : wr.cell? ⟨g, i * 4 + 1, none⟩ = some (.int .i64 x.at_) := HCE.out wr HMT.out _ _ (hcv 1 (by omega))
            have c2' : wr.cell? ⟨g, i * 4 + 2, none⟩ = some (.slice pa pn pc) := HCE.out wr HMT.out _ _ (hcv 2 (by omega))
            have c3 : wr.cell? ⟨g, i * 4 + 3, none⟩ = some (.slice qa qn qc) := HCE.out wr HMT.out _ _ (hcv 3 (by omega))
            have htk : (l.take (i + 1)).filter (fun f => f.name != [109, 97, 105, 110]) = (l.take i).filter (fun f => f.name != [109, 97, 105, 110]) ++ (if x.name != [109, 97, 105, 110] then [x] else []) := by
              rw [List.take_add_one, hx, List.filter_append]
              congr 1
              simp only [Option.toList_some, List.filter_cons, List.filter_nil]
            have HTK := Lib.hid htk
            clear hcv h7 h8 h9 hx htk
            obtain ⟨oa, oc, rfl⟩ := row_form HOW'.out
            unfold str at *
            have HMM := Lib.hid hmm
            clear hmm
            rcases hq : (x.name == [109, 97, 105, 110]) with _ | _
            rotate_left
            · have hb : (x.name != [109, 97, 105, 110]) = false := by unfold bne; rw [hq]; rfl
              have HTK2 : Hid ((l.take (i + 1)).filter (fun f => f.name != [109, 97, 105, 110]) = (l.take i).filter (fun f => f.name != [109, 97, 105, 110])) := Lib.hid (by rw [HTK.out, hb]; simp)
              go_wp2_with fail
              exact ⟨⟨i + 1, us, by omega, by go_num, Lib.hid (by rw [HTK2.out]; exact HU.out), Lib.hid (by rw [HTK2.out, ← HMM.out]; exact HOW'.out), HMR⟩, by simp [intOf]; omega⟩
            · have hb : (x.name != [109, 97, 105, 110]) = true := by unfold bne; rw [hq]; rfl
              have HTK2 : Hid ((l.take (i + 1)).filter (fun f => f.name != [109, 97, 105, 110]) = (l.take i).filter (fun f => f.name != [109, 97, 105, 110]) ++ [x]) := Lib.hid (by rw [HTK.out, hb]; simp)
              go_wp2_with (at_builtin; refine wpList_append_own_at _ rfl _ _ 23 rfl w7.heap.size 33 i0 _ 4 72 Tryz.underlying23 HI.out.1 HI.out.2.1 HI.out.2.2.1 HI.out.2.2.2 rfl (by decide) (.slice oa m oc) m us rfl (HOW'.out.alloc _) ⟨wr.heap.size, 0, none⟩ 1 1 [.string ⟨x.name.toArray⟩, .int .i64 x.at_, .slice pa pn pc, .slice qa qn qc] rfl rfl (four_new _ _ _ _ _ _) (fcells_one _ _ _ _ _ _ _ _) (by unfold maxLen; omega) (by omega) (by have := HMR.out.size; simp; omega) ?_; intro v' w5 hown hgrow hnil hloc; have HOW2 := Lib.hid hown; have HGR : Hid ((wr.alloc (.cells #[.string ⟨x.name.toArray⟩, .int .i64 x.at_, .slice pa pn pc, .slice qa qn qc] 33)).grownBy w5 (Value.slice oa m oc).ownBlock) := Lib.hid hgrow; clear hown hgrow hnil hloc; refine Hid.out ?_)
              refine Lib.hid ?_
              go_wp2_with fail
              have hm5 : Mods None w7 w5 := (HMR.out.alloc _).trans' (Mods.of_grownBy HGR.out (S := fun k => (Value.slice oa m oc).ownBlock = some k) (fun k hk _ => hk)) (fun k hk hw => by have := (HOW'.out.lt k hk).1; omega)
              exact ⟨⟨i + 1, us ++ [.string ⟨x.name.toArray⟩, .int .i64 x.at_, .slice pa pn pc, .slice qa qn qc], by omega, by go_num, Lib.hid (by rw [HTK2.out]; exact FnsAt.append HU.out HCS.out), Lib.hid (by rw [HTK2.out, List.length_append, List.length_singleton, ← HMM.out]; exact HOW2.out), Lib.hid hm5⟩, by simp [intOf]; omega⟩
          · obtain rfl : n = i := by omega
            have hpi : ¬ (n : Int) < (n : Int) := by omega
            have hu := HU.out
            rw [List.take_of_length_le (by rw [HLV.out]; exact Nat.le_refl _)] at hu hmm
            have hrow := HOW'.out
            rw [hmm] at hrow
            have HT := Lib.hid (check_out _ _ wr (fs_of_row hrow (FnsAt.modsTo HMT.out (fun _ _ k => k) _ _ hu) (fun _ _ f => f)))
            clear hu hrow hmm hm12
            go_wp2_with fail
            go_at_call 12
            refine HT.out.mono ?_
            rintro e w8 ⟨he, hm8⟩
            obtain ⟨h, _⟩ | ⟨_, t, p, rfl⟩ := he
            · exact absurd h (checkOk_less l)
            have HM8 := Lib.hid (HM3.out.trans (HMT.out.trans hm8))
            clear hm8 HT
            go_wp2_with fail
            go_ret
            exact ⟨rfl, HM8.out⟩
    · have HCK := Lib.hid hck
      clear hck
      unfold str at *
      go_enter Tryz.func3, Tryz.ntmps3
      go_wp2_with fail
      go_at_call 10
      refine HF.out.mono ?_
      rintro e w1 ⟨rfl, hm1⟩
      have HM1 := Lib.hid hm1
      clear hm1
      go_wp2_with fail
      go_at_call 11
      refine (HP.out _ HM1.out).mono ?_
      rintro e w2 ⟨a2, c2, rfl, hv2, hm2⟩
      have HM2 := Lib.hid (HM1.out.trans hm2)
      have HC := Lib.hid (check_out l _ _ hv2.fs)
      clear hm2 hv2 HP HF
      go_wp2_with fail
      go_at_call 12
      refine HC.out.mono ?_
      rintro e w3 ⟨he, hm3⟩
      obtain ⟨h, _⟩ | ⟨_, t, p, rfl⟩ := he
      · exact absurd h HCK.out
      have HM3 := Lib.hid (HM2.out.trans hm3)
      clear hm3 HC
      go_wp2_with fail
      go_ret
      exact ⟨rfl, HM3.out⟩
end Go.Proofs.YtdgedlhefjmcpaaGreatDoor.TreeP

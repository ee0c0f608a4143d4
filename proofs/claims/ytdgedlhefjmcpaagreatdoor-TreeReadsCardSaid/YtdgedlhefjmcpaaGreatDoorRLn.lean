/- The document's lines: statements, written. Conditions: the powers of ten and a number of the library's own lie. -/
import Derived.Test.YtdgedlhefjmcpaaGreatDoorRTx
import Derived.Test.YtdgedlhefjmcpaaGreatDoorTreePr
namespace Go.Proofs.YtdgedlhefjmcpaaGreatDoor.TreeP.R
open Go.RowKit Go.Proofs.YtdgedlhefjmcpaaGreatDoor.Wo Go.Proofs.YtdgedlhefjmcpaaGreatDoor.TreeP
set_option linter.unusedVariables false
set_option linter.unusedSimpArgs false
theorem FitSs.at_ {d : Nat} : {l : List St} → FitSs l d → (i : Nat) → (s : St) → l[i]? = some s → FitS s d
  | [], h, i, e, he => by simp at he
  | a :: r, h, i, e, he => by
    simp only [FitSs] at h
    cases i with
    | zero => simp only [List.getElem?_cons_zero, Option.some.injEq] at he; subst he; exact h.1
    | succ i => exact FitSs.at_ h.2 i e (by simpa using he)
theorem tx_of {v : Ex} {d : Nat} {x : Value} {W : World} (hP : TxR W) (hf : Fit v d) (hl : (textB v).length ≤ 1000000000) (h : ExAt W None v x) :
    Calls Tryz.prog 92 #[x, .int .i64 0] W fun r w => r = .returned (.string ⟨(textB v).toArray⟩) ∧ Mods None W w := by
  have := tx_any v 0 x d W (by omega) hP hf hl h
  rwa [textR_zero] at this
def LnC (l : List St) : Prop := ∀ (d : Nat) (tab : List UInt8) (X : ByteArray) (x : Value) (vs : List Value) (W : World), X = ⟨tab.toArray⟩ → TxR W → FitSs l d → RowAt W None 143 7 x l.length vs → StsAt W None l vs → tab.length + (stsB tab l).length ≤ 1000000000 →
  Calls Tryz.prog 60 #[x, .string X] W fun e w => e = .returned (.string ⟨(stsB tab l).toArray⟩) ∧ Mods None W w
/-- What is within a statement is written so. -/
def InnerR : St → Prop
  | .cond _ _ t e => LnC t ∧ LnC e
  | .loop _ _ t => LnC t
  | _ => True
set_option maxRecDepth 100000 in
set_option maxHeartbeats 8000000 in
theorem ln_of (l : List St) (hI : ∀ s ∈ l, InnerR s) : LnC l := by
  intro d tab X x vs W hX hP hn hrow hst hlen
  subst hX
  have HP := Lib.hid hP
  have HIN := Lib.hid hI
  have HA := Lib.hid (fun (i : Nat) (s : St) (hs : l[i]? = some s) => (⟨FitSs.at_ hn i s hs, hst.at_ i s hs⟩ : FitS s d ∧ ∃ cs, StAt W None s cs ∧ ∀ j c, cs[j]? = some c → vs[i * 7 + j]? = some c))
  have HTK := Lib.hid (take_le tab l)
  obtain ⟨n, hln⟩ : ∃ n, n = l.length := ⟨_, rfl⟩
  have hrow' := hrow.1
  rw [← hln] at hrow'
  obtain ⟨xa, xc, rfl⟩ := lex_form hrow'
  have hxa : 0 < n → ∃ q, xa = some ⟨q, 0, none⟩ ∧ n ≤ xc ∧ xc ≤ 9223372036854775807 ∧ ∀ j c, vs[j]? = some c → W.cell? ⟨q, j, none⟩ = some c := by
    intro h0
    rcases hrow'.2 with ⟨hv, hz⟩ | ⟨g2, cap2, cur2, hv, _, _, h3, h4, _⟩
    · omega
    · cases hv
      refine ⟨g2, rfl, h3, by unfold maxLen at h4; omega, fun j c hj => ?_⟩
      have := hrow'.cells (g := g2) rfl j c hj
      cases j with
      | zero => exact this
      | succ j => simpa [Addr.add] using this
  have HXA := Lib.hid hxa
  have HN := Lib.hid hln
  have HM0 := Lib.hid (Mods.refl None W)
  clear hP hn hrow hst hI hrow' hxa hln
  go_enter Tryz.func60, Tryz.ntmps60
  go_wp2_with fail
  go_loopw [5, 7, 8, 11] (fun ov _ _ iv wr => ∃ i : Nat, i ≤ l.length ∧ ov = .string ⟨(stsB tab (l.take i)).toArray⟩ ∧ iv = .int .i64 i ∧ Hid (Mods None W wr)) (fun _ _ _ iv _ => (n - intOf iv).toNat)
  case atStart => exact ⟨0, Nat.zero_le _, by simp [stsB], rfl, HM0⟩
  case round =>
    obtain ⟨i, hi, rfl, rfl, HM⟩ := hrel
    have htk := HTK.out i
    by_cases hlt : i < n
    · obtain ⟨q, rfl, hnc, hxc, hcells⟩ := HXA.out (by omega)
      obtain ⟨s, hs⟩ : ∃ s, l[i]? = some s := ⟨l[i]'(by have := HN.out; omega), List.getElem?_eq_getElem _⟩
      obtain ⟨hfit, cs, hst, hvs⟩ := HA.out i s hs
      have HS := Lib.hid hs
      have hin := HIN.out s (List.mem_of_getElem? hs)
      have hle : (stsB tab (l.take i)).length + (stB tab s).length ≤ (stsB tab l).length := by
        have := HTK.out (i + 1)
        rw [List.take_add_one, hs, Option.toList_some, stsB_append, List.length_append] at this
        exact this
      have HNX : Hid (stsB tab (l.take (i + 1)) = stsB tab (l.take i) ++ stB tab s) := Lib.hid (by rw [List.take_add_one, hs, Option.toList_some, stsB_append])
      have HZ := Lib.hid (fun (j : Nat) (c : Value) (hj : cs[j]? = some c) => HM.out.cellOf (hcells _ c (hvs j c hj)) (fun f => f))
      have hii : (i : Int) < (n : Int) := by omega
      obtain ⟨O, hO⟩ : ∃ O, O = stsB tab (l.take i) := ⟨_, rfl⟩
      rw [← hO] at hle HNX ⊢
      clear hs hvs hcells hO htk
      cases s <;> simp only [StAt, FitS, InnerR] at hst hfit hin
      case ret a v =>
        obtain ⟨xv, rfl, hex⟩ := hst
        obtain ⟨gx, rfl⟩ := ExAt.ptr hex
        simp only [stB, List.length_append, isSp, semi, List.length_cons, List.length_nil] at hle
        have HTv := Lib.hid (fun (w1 : World) (hm : Mods None W w1) => tx_of (HP.out.next hm) hfit (by omega) (hex.mods hm))
        have hz0 : wr.cell? ⟨q, i * 7, none⟩ = some (.int .i64 6) := HZ.out 0 _ rfl
        have hz1 : wr.cell? ⟨q, i * 7 + 1, none⟩ = some (.int .i64 a) := HZ.out 1 _ rfl
        have hz2 : wr.cell? ⟨q, i * 7 + 2, none⟩ = some (.string ⟨#[]⟩) := HZ.out 2 _ rfl
        have hz3 : wr.cell? ⟨q, i * 7 + 3, none⟩ = some (.pointer none) := HZ.out 3 _ rfl
        have hz4 : wr.cell? ⟨q, i * 7 + 4, none⟩ = some (.pointer (some ⟨gx, 0, none⟩)) := HZ.out 4 _ rfl
        have hz5 : wr.cell? ⟨q, i * 7 + 5, none⟩ = some (.slice none 0 0) := HZ.out 5 _ rfl
        have hz6 : wr.cell? ⟨q, i * 7 + 6, none⟩ = some (.slice none 0 0) := HZ.out 6 _ rfl
        have HMA := Lib.hid (HM.out.alloc (.cells #[.int .i64 6, .int .i64 a, .string ⟨#[]⟩, .pointer none, .pointer (some ⟨gx, 0, none⟩), .slice none 0 0, .slice none 0 0] 143))
        have HB1 := Lib.hid (Blk.new wr #[.int .i64 6, .int .i64 a, .string ⟨#[]⟩, .pointer none, .pointer (some ⟨gx, 0, none⟩), .slice none 0 0, .slice none 0 0] 143)
        go_wp2_with fail
        go_at_call 92
        obtain ⟨k7, hk7⟩ : ∃ k, k = wr.heap.size := ⟨_, rfl⟩
        rw [← hk7] at HB1 ⊢
        clear hk7 hz0 hz1 hz2 hz3 hz4 hz5 hz6 HZ
        refine (HTv.out _ HMA.out).mono ?_
        rintro e w2 ⟨rfl, hm2⟩
        have HM2 := Lib.hid (HMA.out.trans hm2)
        have HB2 := Lib.hid (HB1.out.mods hm2 (fun f => f))
        clear hm2 HB1 HMA
        have c0 := HB2.out.cell (i := 0) rfl
        have c2 := HB2.out.cell (i := 2) rfl
        go_wp2_with (exfalso; omega)
        refine ⟨⟨i + 1, by have := HN.out; omega, ?_, by go_num, HM2⟩, by simp [intOf]; omega⟩
        rw [HNX.out]
        simp [ba_append, stB, stsB, isSp, semi, sp]
      case print a v =>
        obtain ⟨xv, rfl, hex⟩ := hst
        obtain ⟨gx, rfl⟩ := ExAt.ptr hex
        simp only [stB, List.length_append, isSp, semi, List.length_cons, List.length_nil] at hle
        have HTv := Lib.hid (fun (w1 : World) (hm : Mods None W w1) => tx_of (HP.out.next hm) hfit (by omega) (hex.mods hm))
        have hz0 : wr.cell? ⟨q, i * 7, none⟩ = some (.int .i64 7) := HZ.out 0 _ rfl
        have hz1 : wr.cell? ⟨q, i * 7 + 1, none⟩ = some (.int .i64 a) := HZ.out 1 _ rfl
        have hz2 : wr.cell? ⟨q, i * 7 + 2, none⟩ = some (.string ⟨#[]⟩) := HZ.out 2 _ rfl
        have hz3 : wr.cell? ⟨q, i * 7 + 3, none⟩ = some (.pointer none) := HZ.out 3 _ rfl
        have hz4 : wr.cell? ⟨q, i * 7 + 4, none⟩ = some (.pointer (some ⟨gx, 0, none⟩)) := HZ.out 4 _ rfl
        have hz5 : wr.cell? ⟨q, i * 7 + 5, none⟩ = some (.slice none 0 0) := HZ.out 5 _ rfl
        have hz6 : wr.cell? ⟨q, i * 7 + 6, none⟩ = some (.slice none 0 0) := HZ.out 6 _ rfl
        have HMA := Lib.hid (HM.out.alloc (.cells #[.int .i64 7, .int .i64 a, .string ⟨#[]⟩, .pointer none, .pointer (some ⟨gx, 0, none⟩), .slice none 0 0, .slice none 0 0] 143))
        have HB1 := Lib.hid (Blk.new wr #[.int .i64 7, .int .i64 a, .string ⟨#[]⟩, .pointer none, .pointer (some ⟨gx, 0, none⟩), .slice none 0 0, .slice none 0 0] 143)
        go_wp2_with fail
        go_at_call 92
        obtain ⟨k7, hk7⟩ : ∃ k, k = wr.heap.size := ⟨_, rfl⟩
        rw [← hk7] at HB1 ⊢
        clear hk7 hz0 hz1 hz2 hz3 hz4 hz5 hz6 HZ
        refine (HTv.out _ HMA.out).mono ?_
        rintro e w2 ⟨rfl, hm2⟩
        have HM2 := Lib.hid (HMA.out.trans hm2)
        have HB2 := Lib.hid (HB1.out.mods hm2 (fun f => f))
        clear hm2 HB1 HMA
        have c0 := HB2.out.cell (i := 0) rfl
        have c2 := HB2.out.cell (i := 2) rfl
        go_wp2_with (exfalso; omega)
        refine ⟨⟨i + 1, by have := HN.out; omega, ?_, by go_num, HM2⟩, by simp [intOf]; omega⟩
        rw [HNX.out]
        simp [ba_append, stB, stsB, isSp, semi, sp]
      case call a v =>
        obtain ⟨xv, rfl, hex⟩ := hst
        obtain ⟨gx, rfl⟩ := ExAt.ptr hex
        simp only [stB, List.length_append, isSp, semi, List.length_cons, List.length_nil] at hle
        have HTv := Lib.hid (fun (w1 : World) (hm : Mods None W w1) => tx_of (HP.out.next hm) hfit.2 (by omega) (hex.mods hm))
        have hz0 : wr.cell? ⟨q, i * 7, none⟩ = some (.int .i64 8) := HZ.out 0 _ rfl
        have hz1 : wr.cell? ⟨q, i * 7 + 1, none⟩ = some (.int .i64 a) := HZ.out 1 _ rfl
        have hz2 : wr.cell? ⟨q, i * 7 + 2, none⟩ = some (.string ⟨#[]⟩) := HZ.out 2 _ rfl
        have hz3 : wr.cell? ⟨q, i * 7 + 3, none⟩ = some (.pointer none) := HZ.out 3 _ rfl
        have hz4 : wr.cell? ⟨q, i * 7 + 4, none⟩ = some (.pointer (some ⟨gx, 0, none⟩)) := HZ.out 4 _ rfl
        have hz5 : wr.cell? ⟨q, i * 7 + 5, none⟩ = some (.slice none 0 0) := HZ.out 5 _ rfl
        have hz6 : wr.cell? ⟨q, i * 7 + 6, none⟩ = some (.slice none 0 0) := HZ.out 6 _ rfl
        have HMA := Lib.hid (HM.out.alloc (.cells #[.int .i64 8, .int .i64 a, .string ⟨#[]⟩, .pointer none, .pointer (some ⟨gx, 0, none⟩), .slice none 0 0, .slice none 0 0] 143))
        have HB1 := Lib.hid (Blk.new wr #[.int .i64 8, .int .i64 a, .string ⟨#[]⟩, .pointer none, .pointer (some ⟨gx, 0, none⟩), .slice none 0 0, .slice none 0 0] 143)
        go_wp2_with fail
        go_at_call 92
        obtain ⟨k7, hk7⟩ : ∃ k, k = wr.heap.size := ⟨_, rfl⟩
        rw [← hk7] at HB1 ⊢
        clear hk7 hz0 hz1 hz2 hz3 hz4 hz5 hz6 HZ
        refine (HTv.out _ HMA.out).mono ?_
        rintro e w2 ⟨rfl, hm2⟩
        have HM2 := Lib.hid (HMA.out.trans hm2)
        have HB2 := Lib.hid (HB1.out.mods hm2 (fun f => f))
        clear hm2 HB1 HMA
        have c0 := HB2.out.cell (i := 0) rfl
        have c2 := HB2.out.cell (i := 2) rfl
        go_wp2_with (exfalso; omega)
        refine ⟨⟨i + 1, by have := HN.out; omega, ?_, by go_num, HM2⟩, by simp [intOf]; omega⟩
        rw [HNX.out]
        simp [ba_append, stB, stsB, isSp, semi, sp]
      case var a nm v =>
        obtain ⟨xv, rfl, hex⟩ := hst
        obtain ⟨gx, rfl⟩ := ExAt.ptr hex
        simp only [stB, List.length_append, isSp, semi, List.length_cons, List.length_nil] at hle
        have HTv := Lib.hid (fun (w1 : World) (hm : Mods None W w1) => tx_of (HP.out.next hm) hfit.2 (by omega) (hex.mods hm))
        have hz0 : wr.cell? ⟨q, i * 7, none⟩ = some (.int .i64 1) := HZ.out 0 _ rfl
        have hz1 : wr.cell? ⟨q, i * 7 + 1, none⟩ = some (.int .i64 a) := HZ.out 1 _ rfl
        have hz2 : wr.cell? ⟨q, i * 7 + 2, none⟩ = some (.string ⟨nm.toArray⟩) := HZ.out 2 _ rfl
        have hz3 : wr.cell? ⟨q, i * 7 + 3, none⟩ = some (.pointer none) := HZ.out 3 _ rfl
        have hz4 : wr.cell? ⟨q, i * 7 + 4, none⟩ = some (.pointer (some ⟨gx, 0, none⟩)) := HZ.out 4 _ rfl
        have hz5 : wr.cell? ⟨q, i * 7 + 5, none⟩ = some (.slice none 0 0) := HZ.out 5 _ rfl
        have hz6 : wr.cell? ⟨q, i * 7 + 6, none⟩ = some (.slice none 0 0) := HZ.out 6 _ rfl
        have HMA := Lib.hid (HM.out.alloc (.cells #[.int .i64 1, .int .i64 a, .string ⟨nm.toArray⟩, .pointer none, .pointer (some ⟨gx, 0, none⟩), .slice none 0 0, .slice none 0 0] 143))
        have HB1 := Lib.hid (Blk.new wr #[.int .i64 1, .int .i64 a, .string ⟨nm.toArray⟩, .pointer none, .pointer (some ⟨gx, 0, none⟩), .slice none 0 0, .slice none 0 0] 143)
        go_wp2_with fail
        go_at_call 92
        obtain ⟨k7, hk7⟩ : ∃ k, k = wr.heap.size := ⟨_, rfl⟩
        rw [← hk7] at HB1 ⊢
        clear hk7 hz0 hz1 hz2 hz3 hz4 hz5 hz6 HZ
        refine (HTv.out _ HMA.out).mono ?_
        rintro e w2 ⟨rfl, hm2⟩
        have HM2 := Lib.hid (HMA.out.trans hm2)
        have HB2 := Lib.hid (HB1.out.mods hm2 (fun f => f))
        clear hm2 HB1 HMA
        have c0 := HB2.out.cell (i := 0) rfl
        have c2 := HB2.out.cell (i := 2) rfl
        go_wp2_with (exfalso; omega)
        refine ⟨⟨i + 1, by have := HN.out; omega, ?_, by go_num, HM2⟩, by simp [intOf]; omega⟩
        rw [HNX.out]
        simp [ba_append, stB, stsB, isSp, semi, sp]
      case set a nm v =>
        obtain ⟨xv, rfl, hex⟩ := hst
        obtain ⟨gx, rfl⟩ := ExAt.ptr hex
        simp only [stB, List.length_append, isSp, semi, List.length_cons, List.length_nil] at hle
        have HTv := Lib.hid (fun (w1 : World) (hm : Mods None W w1) => tx_of (HP.out.next hm) hfit.2 (by omega) (hex.mods hm))
        have hz0 : wr.cell? ⟨q, i * 7, none⟩ = some (.int .i64 2) := HZ.out 0 _ rfl
        have hz1 : wr.cell? ⟨q, i * 7 + 1, none⟩ = some (.int .i64 a) := HZ.out 1 _ rfl
        have hz2 : wr.cell? ⟨q, i * 7 + 2, none⟩ = some (.string ⟨nm.toArray⟩) := HZ.out 2 _ rfl
        have hz3 : wr.cell? ⟨q, i * 7 + 3, none⟩ = some (.pointer none) := HZ.out 3 _ rfl
        have hz4 : wr.cell? ⟨q, i * 7 + 4, none⟩ = some (.pointer (some ⟨gx, 0, none⟩)) := HZ.out 4 _ rfl
        have hz5 : wr.cell? ⟨q, i * 7 + 5, none⟩ = some (.slice none 0 0) := HZ.out 5 _ rfl
        have hz6 : wr.cell? ⟨q, i * 7 + 6, none⟩ = some (.slice none 0 0) := HZ.out 6 _ rfl
        have HMA := Lib.hid (HM.out.alloc (.cells #[.int .i64 2, .int .i64 a, .string ⟨nm.toArray⟩, .pointer none, .pointer (some ⟨gx, 0, none⟩), .slice none 0 0, .slice none 0 0] 143))
        have HB1 := Lib.hid (Blk.new wr #[.int .i64 2, .int .i64 a, .string ⟨nm.toArray⟩, .pointer none, .pointer (some ⟨gx, 0, none⟩), .slice none 0 0, .slice none 0 0] 143)
        go_wp2_with fail
        go_at_call 92
        obtain ⟨k7, hk7⟩ : ∃ k, k = wr.heap.size := ⟨_, rfl⟩
        rw [← hk7] at HB1 ⊢
        clear hk7 hz0 hz1 hz2 hz3 hz4 hz5 hz6 HZ
        refine (HTv.out _ HMA.out).mono ?_
        rintro e w2 ⟨rfl, hm2⟩
        have HM2 := Lib.hid (HMA.out.trans hm2)
        have HB2 := Lib.hid (HB1.out.mods hm2 (fun f => f))
        clear hm2 HB1 HMA
        have c0 := HB2.out.cell (i := 0) rfl
        have c2 := HB2.out.cell (i := 2) rfl
        go_wp2_with (exfalso; omega)
        refine ⟨⟨i + 1, by have := HN.out; omega, ?_, by go_num, HM2⟩, by simp [intOf]; omega⟩
        rw [HNX.out]
        simp [ba_append, stB, stsB, isSp, semi, sp]
      case put a nm ix v =>
        obtain ⟨xi, xv, rfl, hexi, hex⟩ := hst
        obtain ⟨gi, rfl⟩ := ExAt.ptr hexi
        obtain ⟨gx, rfl⟩ := ExAt.ptr hex
        simp only [stB, List.length_append, isSp, semi, List.length_cons, List.length_nil] at hle
        have HTv := Lib.hid (fun (w1 : World) (hm : Mods None W w1) => tx_of (HP.out.next hm) hfit.2.2 (by omega) (hex.mods hm))
        have HTi := Lib.hid (fun (w1 : World) (hm : Mods None W w1) => tx_of (HP.out.next hm) hfit.2.1 (by omega) (hexi.mods hm))
        have hz0 : wr.cell? ⟨q, i * 7, none⟩ = some (.int .i64 3) := HZ.out 0 _ rfl
        have hz1 : wr.cell? ⟨q, i * 7 + 1, none⟩ = some (.int .i64 a) := HZ.out 1 _ rfl
        have hz2 : wr.cell? ⟨q, i * 7 + 2, none⟩ = some (.string ⟨nm.toArray⟩) := HZ.out 2 _ rfl
        have hz3 : wr.cell? ⟨q, i * 7 + 3, none⟩ = some (.pointer (some ⟨gi, 0, none⟩)) := HZ.out 3 _ rfl
        have hz4 : wr.cell? ⟨q, i * 7 + 4, none⟩ = some (.pointer (some ⟨gx, 0, none⟩)) := HZ.out 4 _ rfl
        have hz5 : wr.cell? ⟨q, i * 7 + 5, none⟩ = some (.slice none 0 0) := HZ.out 5 _ rfl
        have hz6 : wr.cell? ⟨q, i * 7 + 6, none⟩ = some (.slice none 0 0) := HZ.out 6 _ rfl
        have HMA := Lib.hid (HM.out.alloc (.cells #[.int .i64 3, .int .i64 a, .string ⟨nm.toArray⟩, .pointer (some ⟨gi, 0, none⟩), .pointer (some ⟨gx, 0, none⟩), .slice none 0 0, .slice none 0 0] 143))
        have HB1 := Lib.hid (Blk.new wr #[.int .i64 3, .int .i64 a, .string ⟨nm.toArray⟩, .pointer (some ⟨gi, 0, none⟩), .pointer (some ⟨gx, 0, none⟩), .slice none 0 0, .slice none 0 0] 143)
        go_wp2_with fail
        go_at_call 92
        obtain ⟨k7, hk7⟩ : ∃ k, k = wr.heap.size := ⟨_, rfl⟩
        rw [← hk7] at HB1 ⊢
        clear hk7 hz0 hz1 hz2 hz3 hz4 hz5 hz6 HZ
        refine (HTv.out _ HMA.out).mono ?_
        rintro e w2 ⟨rfl, hm2⟩
        have HM2 := Lib.hid (HMA.out.trans hm2)
        have HB2 := Lib.hid (HB1.out.mods hm2 (fun f => f))
        clear hm2 HB1 HMA
        have c0 := HB2.out.cell (i := 0) rfl
        have c2 := HB2.out.cell (i := 2) rfl
        have c3 := HB2.out.cell (i := 3) rfl
        have hq0 : ¬ 9223372036854775807 < tab.length + nm.length := by omega
        have hq1 : ¬ 9223372036854775807 < tab.length + nm.length + 1 := by omega
        have hq2 : ¬ 9223372036854775807 < tab.length + nm.length + 1 + (textB ix).length := by omega
        have hq3 : ¬ 9223372036854775807 < tab.length + nm.length + 1 + (textB ix).length + 4 := by omega
        have hq4 : ¬ 9223372036854775807 < tab.length + nm.length + 1 + (textB ix).length + 4 + (textB v).length := by omega
        have hq5 : ¬ 9223372036854775807 < tab.length + nm.length + 1 + (textB ix).length + 4 + (textB v).length + 2 := by omega
        have hq6 : ¬ 9223372036854775807 < O.length + (tab.length + nm.length + 1 + (textB ix).length + 4 + (textB v).length + 2) := by omega
        go_wp2_with (exfalso; omega)
        go_region_held3 (fun w' => Hid (Mods None W w') ∧ w'.cell? ⟨k7, 2, none⟩ = some (.string ⟨nm.toArray⟩) ∧ w'.cell? ⟨k7, 3, none⟩ = some (.pointer (some ⟨gi, 0, none⟩)))
          (first
            | exact ⟨Lib.hid HM2.out.drew, c2, c3⟩
            | assumption
            | (exfalso; omega)
            | (go_split_ands; exact ⟨Lib.hid (Mods.trans (Hid.out ‹_›) hm), hm.cellOf ‹_› (fun f => f), hm.cellOf ‹_› (fun f => f)⟩))
          ((first
            | (go_at_call 92; go_split_ands; refine (HTi.out _ (Hid.out ‹Hid (Mods None W _)›)).mono ?_; rintro e w' ⟨rfl, hm⟩)))
        all_goals
          go_split_ands
          have HM4 : Hid (Mods None W w') := ‹Hid (Mods None W w')›
          clear hm
          go_wp2_with (exfalso; omega)
          refine ⟨⟨i + 1, by have := HN.out; omega, ?_, by go_num, HM4⟩, by simp [intOf]; omega⟩
          rw [HNX.out]
          simp [ba_append, stB, stsB, isSp, semi, sp]
      case loop a v t =>
        obtain ⟨xv, pv, vp, rfl, hex, hrp, hsp⟩ := hst
        obtain ⟨pa, pc, rfl⟩ := lex_form hrp.1
        obtain ⟨gx, rfl⟩ := ExAt.ptr hex
        simp only [stB, List.length_append, isSp, semi, List.length_cons, List.length_nil] at hle
        have HTv := Lib.hid (fun (w1 : World) (hm : Mods None W w1) => tx_of (HP.out.next hm) hfit.1 (by omega) (hex.mods hm))
        have HLt := Lib.hid (fun (w1 : World) (hm : Mods None W w1) => hin (d + 1) (tab ++ sp) (⟨tab.toArray⟩ ++ ⟨#[32, 32]⟩) _ _ w1 (by simp [ba_append, sp]) (HP.out.next hm) hfit.2.2 (hrp.mods hm (fun _ _ f => f)) (StsAt.modsTo hm (fun _ _ f => f) _ _ hsp) (by have hsp2 : sp.length = 2 := rfl; simp only [List.length_append]; omega))
        have hz0 : wr.cell? ⟨q, i * 7, none⟩ = some (.int .i64 5) := HZ.out 0 _ rfl
        have hz1 : wr.cell? ⟨q, i * 7 + 1, none⟩ = some (.int .i64 a) := HZ.out 1 _ rfl
        have hz2 : wr.cell? ⟨q, i * 7 + 2, none⟩ = some (.string ⟨#[]⟩) := HZ.out 2 _ rfl
        have hz3 : wr.cell? ⟨q, i * 7 + 3, none⟩ = some (.pointer none) := HZ.out 3 _ rfl
        have hz4 : wr.cell? ⟨q, i * 7 + 4, none⟩ = some (.pointer (some ⟨gx, 0, none⟩)) := HZ.out 4 _ rfl
        have hz5 : wr.cell? ⟨q, i * 7 + 5, none⟩ = some (.slice pa t.length pc) := HZ.out 5 _ rfl
        have hz6 : wr.cell? ⟨q, i * 7 + 6, none⟩ = some (.slice none 0 0) := HZ.out 6 _ rfl
        have HMA := Lib.hid (HM.out.alloc (.cells #[.int .i64 5, .int .i64 a, .string ⟨#[]⟩, .pointer none, .pointer (some ⟨gx, 0, none⟩), .slice pa t.length pc, .slice none 0 0] 143))
        have HB1 := Lib.hid (Blk.new wr #[.int .i64 5, .int .i64 a, .string ⟨#[]⟩, .pointer none, .pointer (some ⟨gx, 0, none⟩), .slice pa t.length pc, .slice none 0 0] 143)
        go_wp2_with fail
        go_at_call 92
        obtain ⟨k7, hk7⟩ : ∃ k, k = wr.heap.size := ⟨_, rfl⟩
        rw [← hk7] at HB1 ⊢
        clear hk7 hz0 hz1 hz2 hz3 hz4 hz5 hz6 HZ
        refine (HTv.out _ HMA.out).mono ?_
        rintro e w2 ⟨rfl, hm2⟩
        have HM2 := Lib.hid (HMA.out.trans hm2)
        have HB2 := Lib.hid (HB1.out.mods hm2 (fun f => f))
        clear hm2 HB1 HMA
        have c0 := HB2.out.cell (i := 0) rfl
        have c5 := HB2.out.cell (i := 5) rfl
        go_wp2_with (exfalso; omega)
        go_at_call 60
        refine (HLt.out _ HM2.out).mono ?_
        rintro e w4 ⟨rfl, hm4⟩
        have HM4 := Lib.hid (HM2.out.trans hm4)
        clear hm4 HB2
        go_wp2_with (exfalso; omega)
        refine ⟨⟨i + 1, by have := HN.out; omega, ?_, by go_num, HM4⟩, by simp [intOf]; omega⟩
        rw [HNX.out]
        simp [ba_append, stB, stsB, isSp, semi, sp]
      case cond a v t el =>
        obtain ⟨xv, pv, vp, qv, vq, rfl, hex, hrp, hsp, hrq, hsq⟩ := hst
        obtain ⟨pa, pc, rfl⟩ := lex_form hrp.1
        obtain ⟨qa, qc, rfl⟩ := lex_form hrq.1
        obtain ⟨gx, rfl⟩ := ExAt.ptr hex
        simp only [stB, List.length_append, isSp, semi, List.length_cons, List.length_nil] at hle
        have HTv := Lib.hid (fun (w1 : World) (hm : Mods None W w1) => tx_of (HP.out.next hm) hfit.1 (by omega) (hex.mods hm))
        have HLt := Lib.hid (fun (w1 : World) (hm : Mods None W w1) => hin.1 (d + 1) (tab ++ sp) (⟨tab.toArray⟩ ++ ⟨#[32, 32]⟩) _ _ w1 (by simp [ba_append, sp]) (HP.out.next hm) hfit.2.2.1 (hrp.mods hm (fun _ _ f => f)) (StsAt.modsTo hm (fun _ _ f => f) _ _ hsp) (by have hsp2 : sp.length = 2 := rfl; simp only [List.length_append]; omega))
        have hz0 : wr.cell? ⟨q, i * 7, none⟩ = some (.int .i64 4) := HZ.out 0 _ rfl
        have hz1 : wr.cell? ⟨q, i * 7 + 1, none⟩ = some (.int .i64 a) := HZ.out 1 _ rfl
        have hz2 : wr.cell? ⟨q, i * 7 + 2, none⟩ = some (.string ⟨#[]⟩) := HZ.out 2 _ rfl
        have hz3 : wr.cell? ⟨q, i * 7 + 3, none⟩ = some (.pointer none) := HZ.out 3 _ rfl
        have hz4 : wr.cell? ⟨q, i * 7 + 4, none⟩ = some (.pointer (some ⟨gx, 0, none⟩)) := HZ.out 4 _ rfl
        have hz5 : wr.cell? ⟨q, i * 7 + 5, none⟩ = some (.slice pa t.length pc) := HZ.out 5 _ rfl
        have hz6 : wr.cell? ⟨q, i * 7 + 6, none⟩ = some (.slice qa el.length qc) := HZ.out 6 _ rfl
        have HMA := Lib.hid (HM.out.alloc (.cells #[.int .i64 4, .int .i64 a, .string ⟨#[]⟩, .pointer none, .pointer (some ⟨gx, 0, none⟩), .slice pa t.length pc, .slice qa el.length qc] 143))
        have HB1 := Lib.hid (Blk.new wr #[.int .i64 4, .int .i64 a, .string ⟨#[]⟩, .pointer none, .pointer (some ⟨gx, 0, none⟩), .slice pa t.length pc, .slice qa el.length qc] 143)
        go_wp2_with fail
        go_at_call 92
        obtain ⟨k7, hk7⟩ : ∃ k, k = wr.heap.size := ⟨_, rfl⟩
        rw [← hk7] at HB1 ⊢
        clear hk7 hz0 hz1 hz2 hz3 hz4 hz5 hz6 HZ
        refine (HTv.out _ HMA.out).mono ?_
        rintro e w2 ⟨rfl, hm2⟩
        have HM2 := Lib.hid (HMA.out.trans hm2)
        have HB2 := Lib.hid (HB1.out.mods hm2 (fun f => f))
        clear hm2 HB1 HMA
        have c0 := HB2.out.cell (i := 0) rfl
        have c5 := HB2.out.cell (i := 5) rfl
        go_wp2_with (exfalso; omega)
        go_at_call 60
        refine (HLt.out _ HM2.out).mono ?_
        rintro e w4 ⟨rfl, hm4⟩
        have HM4 := Lib.hid (HM2.out.trans hm4)
        have HB4 := Lib.hid (HB2.out.mods hm4 (fun f => f))
        clear hm4 HB2 c0 c5
        have c6 := HB4.out.cell (i := 6) rfl
        by_cases hel : el.length = 0
        · have hee : el = [] := List.eq_nil_of_length_eq_zero hel
          have hel2 : ¬ (0 : Int) < (el.length : Int) := by omega
          have HEE := Lib.hid hee
          clear hee hel
          go_wp2_with (exfalso; omega)
          refine ⟨⟨i + 1, by have := HN.out; omega, ?_, by go_num, HM4⟩, by simp [intOf]; omega⟩
          rw [HNX.out]
          simp [ba_append, stB, stsB, isSp, semi, sp, HEE.out]
        · have hel2 : (0 : Int) < (el.length : Int) := by omega
          have hne : el.isEmpty = false := by cases el with
            | nil => simp at hel
            | cons _ _ => rfl
          have HNE := Lib.hid hne
          rw [hne] at hle
          simp only [Bool.false_eq_true, if_false, List.length_append, List.length_cons, List.length_nil] at hle
          have HLe := Lib.hid (fun (w1 : World) (hm : Mods None W w1) => hin.2 (d + 1) (tab ++ sp) (⟨tab.toArray⟩ ++ ⟨#[32, 32]⟩) _ _ w1 (by simp [ba_append, sp]) (HP.out.next hm) hfit.2.2.2 (hrq.mods hm (fun _ _ f => f)) (StsAt.modsTo hm (fun _ _ f => f) _ _ hsq) (by have hsp2 : sp.length = 2 := rfl; simp only [List.length_append]; omega))
          clear hne hel
          go_wp2_with (exfalso; omega)
          go_at_call 60
          refine (HLe.out _ HM4.out).mono ?_
          rintro e w5 ⟨rfl, hm5⟩
          have HM5 := Lib.hid (HM4.out.trans hm5)
          clear hm5 HB4 c6
          go_wp2_with (exfalso; omega)
          refine ⟨⟨i + 1, by have := HN.out; omega, ?_, by go_num, HM5⟩, by simp [intOf]; omega⟩
          rw [HNX.out]
          simp [ba_append, stB, stsB, isSp, semi, sp, HNE.out]
    · obtain rfl : i = l.length := by have := HN.out; omega
      have hii : ¬ (l.length : Int) < (n : Int) := by omega
      rw [List.take_length]
      go_wp2
      go_ret
      exact ⟨rfl, HM.out⟩
mutual
theorem inr_any : (s : St) → InnerR s
  | .var .. => trivial
  | .set .. => trivial
  | .put .. => trivial
  | .cond a v t e => ⟨ln_of t (inrs_any t), ln_of e (inrs_any e)⟩
  | .loop a v t => ln_of t (inrs_any t)
  | .ret .. => trivial
  | .print .. => trivial
  | .call .. => trivial
theorem inrs_any : (l : List St) → ∀ s ∈ l, InnerR s
  | [], s, h => nomatch h
  | a :: r, s, h => by
    rcases List.mem_cons.1 h with he | h
    · rw [he]; exact inr_any a
    · exact inrs_any r s h
end
theorem ln_any (l : List St) : LnC l := ln_of l (inrs_any l)
end Go.Proofs.YtdgedlhefjmcpaaGreatDoor.TreeP.R

/- The builder of the text. No conditions. Statements are written. Conditions: what is read of the package's variables lies. Programs are written. Conditions: what is read of the package's variables lies. -/
import Derived.Test.YtdgedlhefjmcpaaGreatDoorTreeWr
import Derived.Test.YtdgedlhefjmcpaaGreatDoorTreeMem
import Derived.Test.YtdgedlhefjmcpaaGreatDoorShelf
import Derived.Deep.RegionHeld3
import Derived.Test.YtdgedlhefjmcpaaGreatDoorTreePar
namespace Go.Proofs.YtdgedlhefjmcpaaGreatDoor.TreeP
open Go.RowKit Go.Proofs.YtdgedlhefjmcpaaGreatDoor.Wo
set_option linter.unusedVariables false
set_option linter.unusedSimpArgs false
/-- The builder at b holds t; all since W0 is new. -/
structure Bld (W0 w : World) (b : Nat) (t : List UInt8) : Prop where
  blt : Lib.IsBuilderF 114 5 W0.heap.size b (Lib.byteCells t) w
  mods : Mods None W0 w
theorem bat_mods {T e : TypeId} {B b : Nat} {p : Value} {bs : List Value} {w w' : World} (h : Lib.BuilderAtF T e B b p bs w) (hm : Mods None w w') : Lib.BuilderAtF T e B b p bs w' := by
  obtain ⟨h1, v, h2, ⟨h3, h4⟩, h5⟩ := h
  refine ⟨h1, v, hm.blockOf h2 (fun f => f), ⟨h3, ?_⟩, h5⟩
  rcases h4 with h4 | ⟨g, cap, cur, fz, a1, a2, a3, a4⟩
  · exact Or.inl h4
  · exact Or.inr ⟨g, cap, cur, fz, a1, a2, hm.blockOf a3 (fun f => f), a4⟩
theorem Bld.quiet {W0 w w' : World} {b : Nat} {t : List UInt8} (h : Bld W0 w b t) (hm : Mods None w w') : Bld W0 w' b t :=
  ⟨h.blt.elim (fun x => Or.inl (bat_mods x hm)) (fun x => Or.inr (bat_mods x hm)), h.mods.trans hm⟩
theorem Bld.ge {W0 w : World} {b : Nat} {t : List UInt8} (h : Bld W0 w b t) : W0.heap.size ≤ b := h.blt.elim (fun x => x.1) (fun x => x.1)
/-- All but the builder and rows of bytes. -/
def Kept (b : Nat) (w w' : World) : Prop := Lib.OthersKept 5 (some b) w w'
theorem kept_quiet {b : Nat} {w w' : World} (hm : Mods None w w') : Kept b w w' := fun k o hk _ _ => hm.blockOf hk (fun f => f)
theorem Kept.trans {b : Nat} {w w' w'' : World} (h : Kept b w w') (k : Kept b w' w'') : Kept b w w'' := Lib.OthersKept.trans h k
theorem blk_kept {b : Nat} {w w' : World} (h : Kept b w w') {k : Nat} {cs : List Value} {t : TypeId} (hb : Blk w k cs t) (hne : k ≠ b) (ht : t ≠ 5) : Blk w' k cs t :=
  h k _ hb (by simpa using hne) (fun c fz he => by cases he; exact ht rfl)
theorem write_any {W0 w : World} {b : Nat} {t : List UInt8} (h : Bld W0 w b t) (s : List UInt8) (hl : t.length + s.length ≤ 100000000000000) :
    Calls Tryz.prog 53 #[.pointer (some ⟨b, 0, none⟩), .string ⟨s.toArray⟩] w fun e w' => e = .returned (.tuple #[.int .i64 s.length, .nilIface]) ∧ Bld W0 w' b (t ++ s) ∧ Kept b w w' := by
  have hc := Any.Builder_WriteString_k (P := Tryz.prog) (ρ := Tryz.lays156_ren) { Tryz.lays156 with } Tryz.Builder_Extra_156 W0.heap.size b (Lib.byteCells t) ⟨s.toArray⟩ w h.blt (by rw [Lib.byteCells_length]; simp only [ByteArray.size, List.size_toArray]; omega) h.mods.size
  refine Calls.mono hc ?_
  rintro e w' ⟨rfl, h1, h2, h3⟩
  refine ⟨by simp [ByteArray.size], ⟨Or.inr ?_, ⟨h2.os.trans h.mods.os, h2.output.trans h.mods.output, Nat.le_trans h.mods.size h2.size, fun k hk hn => (h2.block k hk).trans (h.mods.block k hk hn)⟩⟩, h3⟩
  have e1 : Lib.byteCells (t ++ s) = Lib.byteCells t ++ Lib.strCells ⟨s.toArray⟩ := by simp [Lib.byteCells, Lib.strCells]
  rw [e1]
  exact h1
theorem write_of {W0 w : World} {b : Nat} {t : List UInt8} (h : Bld W0 w b t) (X : ByteArray) (s : List UInt8) (hx : X = ⟨s.toArray⟩) (hl : t.length + s.length ≤ 100000000000000) :
    Calls Tryz.prog 53 #[.pointer (some ⟨b, 0, none⟩), .string X] w fun e w' => e = .returned (.tuple #[.int .i64 s.length, .nilIface]) ∧ Bld W0 w' b (t ++ s) ∧ Kept b w w' := by
  rw [hx]
  exact write_any h s hl
end Go.Proofs.YtdgedlhefjmcpaaGreatDoor.TreeP
namespace Go.Proofs.YtdgedlhefjmcpaaGreatDoor.TreeP
open Go.RowKit Go.Proofs.YtdgedlhefjmcpaaGreatDoor.Wo
set_option linter.unusedVariables false
set_option linter.unusedSimpArgs false
theorem bld_lt {W0 w : World} {b : Nat} {t : List UInt8} (h : Bld W0 w b t) : b < w.heap.size := by
  rcases h.blt with ⟨_, v, h2, _⟩ | ⟨_, v, h2, _⟩ <;> exact lt_of_block h2
theorem StAt.len {W : World} {S : Nat → Prop} {s : St} {cs : List Value} (h : StAt W S s cs) : cs.length = 7 := by
  obtain ⟨_, _, _, _, _, _, _, _, _, _, _, rfl⟩ := h.shape
  rfl
theorem StsAt.at_ {W : World} {S : Nat → Prop} : {l : List St} → {vs : List Value} → StsAt W S l vs → (i : Nat) → (s : St) → l[i]? = some s → ∃ cs, StAt W S s cs ∧ ∀ j c, cs[j]? = some c → vs[i * 7 + j]? = some c
  | [], vs, h, i, e, he => by simp at he
  | a :: r, vs, h, i, e, he => by
    simp only [StsAt] at h
    obtain ⟨x, r2, rfl, h1, h2⟩ := h
    have h7 := h1.len
    cases i with
    | zero =>
      simp only [List.getElem?_cons_zero, Option.some.injEq] at he
      subst he
      refine ⟨x, h1, fun j c hj => ?_⟩
      rw [Nat.zero_mul, Nat.zero_add, List.getElem?_append_left (List.getElem?_eq_some_iff.1 hj).1]
      exact hj
    | succ i =>
      obtain ⟨cs, h3, h4⟩ := StsAt.at_ h2 i e (by simpa using he)
      refine ⟨cs, h3, fun j c hj => ?_⟩
      rw [List.getElem?_append_right (by omega), show (i + 1) * 7 + j - x.length = i * 7 + j by omega]
      exact h4 j c hj
def StsC (l : List St) : Prop := ∀ (W0 w : World) (b : Nat) (t tab : List UInt8) (x : Value) (vs : List Value), Bld W0 w b t → Prn W0 → NumSts l → RowAt W0 None 143 7 x l.length vs → StsAt W0 None l vs → t.length + tab.length + (stsB tab l).length ≤ 1000000000 →
  Calls Tryz.prog 55 #[.pointer (some ⟨b, 0, none⟩), x, .string ⟨tab.toArray⟩] w fun e w' => e = .returned (.tuple #[]) ∧ Bld W0 w' b (t ++ stsB tab l) ∧ Kept b w w'
theorem stsc_of {l : List St} (h : StsC l) {W0 w : World} {b : Nat} {t : List UInt8} {x : Value} {vs : List Value} (hb : Bld W0 w b t) (hP : Prn W0) (hn : NumSts l) (hr : RowAt W0 None 143 7 x l.length vs) (hs : StsAt W0 None l vs) (X : ByteArray) (tab : List UInt8) (hX : X = ⟨tab.toArray⟩) (hl : t.length + tab.length + (stsB tab l).length ≤ 1000000000) :
    Calls Tryz.prog 55 #[.pointer (some ⟨b, 0, none⟩), x, .string X] w fun e w' => e = .returned (.tuple #[]) ∧ Bld W0 w' b (t ++ stsB tab l) ∧ Kept b w w' := by
  rw [hX]
  exact h W0 w b t tab x vs hb hP hn hr hs hl
/-- What is within a statement is written so. -/
def Inner : St → Prop
  | .cond _ _ t e => StsC t ∧ StsC e
  | .loop _ _ t => StsC t
  | _ => True
/-- Where the loop stands. -/
def PrAt (W0 w : World) (b : Nat) (t tab : List UInt8) (l : List St) (iv : Value) (wr : World) : Prop :=
  ∃ i : Nat, i ≤ l.length ∧ iv = .int .i64 i ∧ Bld W0 wr b (t ++ stsB tab (l.take i)) ∧ Kept b w wr
set_option maxRecDepth 100000 in
set_option maxHeartbeats 8000000 in
theorem sts_of (l : List St) (hI : ∀ s ∈ l, Inner s) : StsC l := by
  intro W0 w b t tab x vs hb hP hn hrow hst hlen
  have HB0 := Lib.hid hb
  have HP := Lib.hid hP
  have HIN := Lib.hid hI
  -- each statement
  have HA := Lib.hid (fun (i : Nat) (s : St) (hs : l[i]? = some s) => (⟨hn.at_ i s hs, stB_le tab l i s hs, hst.at_ i s hs⟩ : NumSt s ∧ (stB tab s).length ≤ (stsB tab l).length ∧ ∃ cs, StAt W0 None s cs ∧ ∀ j c, cs[j]? = some c → vs[i * 7 + j]? = some c))
  have HTK := Lib.hid (take_le tab l)
  obtain ⟨n, hln⟩ : ∃ n, n = l.length := ⟨_, rfl⟩
  have hrow' := hrow.1
  rw [← hln] at hrow'
  obtain ⟨xa, xc, rfl⟩ := lex_form hrow'
  have hxa : 0 < n → ∃ q, xa = some ⟨q, 0, none⟩ ∧ n ≤ xc ∧ xc ≤ 9223372036854775807 ∧ ∀ j c, vs[j]? = some c → W0.cell? ⟨q, j, none⟩ = some c := by
    intro h0
    rcases hrow'.2 with ⟨hv, hz⟩ | ⟨g2, cap2, cur2, hv, _, _, h3, h4, _⟩
    · omega
    · cases hv
      refine ⟨g2, rfl, h3, by unfold maxLen at h4; omega, fun j c hj => ?_⟩
      have := hrow'.cells (g := g2) rfl j c hj
      cases j with
      | zero => exact this
      | succ j => simpa [Addr.add] using this
  have HXA := Lib.hid hxa
  have HN := Lib.hid hln
  clear hb hP hn hrow hst hI hrow' hxa hln
  go_enter Tryz.func55, Tryz.ntmps55
  go_wp2_with fail
  go_loopw [11] (fun iv wr => PrAt W0 w b t tab l iv wr) (fun iv _ => (n - intOf iv).toNat)
  case atStart => exact ⟨0, Nat.zero_le _, rfl, by simpa [stsB] using HB0.out, Lib.OthersKept.refl _ _ _⟩
  case round =>
    clear HB0
    obtain ⟨i, hi, rfl, hbr, hkr⟩ := hrel
    have HB := Lib.hid hbr
    have HK := Lib.hid hkr
    clear hbr hkr
    by_cases hlt : i < n
    · obtain ⟨q, rfl, hnc, hxc, hcells⟩ := HXA.out (by omega)
      obtain ⟨s, hs⟩ : ∃ s, l[i]? = some s := ⟨l[i]'(by have := HN.out; omega), List.getElem?_eq_getElem _⟩
      obtain ⟨hnum, -, cs, hst, hvs⟩ := HA.out i s hs
      have HS := Lib.hid hs
      have hin := HIN.out s (List.mem_of_getElem? hs)
      have htk := HTK.out i
      have hle : (stsB tab (l.take i)).length + (stB tab s).length ≤ (stsB tab l).length := by
        have := HTK.out (i + 1)
        rw [List.take_add_one, hs, Option.toList_some, stsB_append, List.length_append] at this
        exact this
      have HZ := Lib.hid (fun (j : Nat) (c : Value) (hj : cs[j]? = some c) => HB.out.mods.cellOf (hcells _ c (hvs j c hj)) (fun f => f))
      have hii : (i : Int) < (n : Int) := by omega
      have hlT : (t ++ stsB tab (l.take i)).length = t.length + (stsB tab (l.take i)).length := by simp
      clear hs hvs hcells
      cases s <;> simp only [StAt, NumSt, Inner] at hst hnum hin
      case ret a v =>
        obtain ⟨xv, rfl, hex⟩ := hst
        obtain ⟨gx, rfl⟩ := ExAt.ptr hex
        simp only [stB, List.length_append, isSp, semi, List.length_cons, List.length_nil] at hle
        have HTv := Lib.hid (fun (w1 : World) (hm : Mods None W0 w1) => text_any v _ w1 (HP.out.next hm) hnum (by omega) (hex.mods hm))
        have hz0 : wr.cell? ⟨q, i * 7, none⟩ = some (.int .i64 6) := HZ.out 0 _ rfl
        have hz1 : wr.cell? ⟨q, i * 7 + 1, none⟩ = some (.int .i64 a) := HZ.out 1 _ rfl
        have hz2 : wr.cell? ⟨q, i * 7 + 2, none⟩ = some (.string ⟨#[]⟩) := HZ.out 2 _ rfl
        have hz3 : wr.cell? ⟨q, i * 7 + 3, none⟩ = some (.pointer none) := HZ.out 3 _ rfl
        have hz4 : wr.cell? ⟨q, i * 7 + 4, none⟩ = some (.pointer (some ⟨gx, 0, none⟩)) := HZ.out 4 _ rfl
        have hz5 : wr.cell? ⟨q, i * 7 + 5, none⟩ = some (.slice none 0 0) := HZ.out 5 _ rfl
        have hz6 : wr.cell? ⟨q, i * 7 + 6, none⟩ = some (.slice none 0 0) := HZ.out 6 _ rfl
        have HBA := Lib.hid (HB.out.quiet ((Mods.refl None wr).alloc (.cells #[.int .i64 6, .int .i64 a, .string ⟨#[]⟩, .pointer none, .pointer (some ⟨gx, 0, none⟩), .slice none 0 0, .slice none 0 0] 143)))
        have hbl := bld_lt HB.out
        go_wp2_with fail
        go_at_call 53
        refine (write_any HBA.out tab (by simp only [List.length_append]; omega)).mono ?_
        rintro e w1 ⟨rfl, hb1, hk1⟩
        have HB1 := Lib.hid hb1
        have HK1 := Lib.hid ((HK.out.trans (kept_quiet ((Mods.refl None wr).alloc (.cells #[.int .i64 6, .int .i64 a, .string ⟨#[]⟩, .pointer none, .pointer (some ⟨gx, 0, none⟩), .slice none 0 0, .slice none 0 0] 143)))).trans hk1)
        have HC1 := Lib.hid (blk_kept hk1 (Blk.new wr #[.int .i64 6, .int .i64 a, .string ⟨#[]⟩, .pointer none, .pointer (some ⟨gx, 0, none⟩), .slice none 0 0, .slice none 0 0] 143) (by omega) (by decide))
        obtain ⟨k7, hk7⟩ : ∃ k, k = wr.heap.size := ⟨_, rfl⟩
        have hkb : Hid (k7 ≠ b) := Lib.hid (by omega)
        rw [← hk7] at HC1 ⊢
        clear hk7 hb1 hk1 hz0 hz1 hz2 hz3 hz4 hz5 hz6 HBA hbl HZ HB HK
        have c0 := HC1.out.cell (i := 0) rfl
        have c4 := HC1.out.cell (i := 4) rfl
        go_wp2_with fail
        go_at_call 87
        refine (HTv.out w1 HB1.out.mods).mono ?_
        rintro e w2 ⟨rfl, hm2⟩
        have HB2 := Lib.hid (HB1.out.quiet hm2)
        have HK2 := Lib.hid (HK1.out.trans (kept_quiet hm2))
        have HC2 := Lib.hid (HC1.out.mods hm2 (fun f => f))
        clear hm2 HB1 HK1 HC1
        have hs0 : ¬ 9223372036854775807 < 7 + (textB v).length := by omega
        have hs1 : ¬ 9223372036854775807 < 7 + (textB v).length + 2 := by omega
        go_wp2_with fail
        go_at_call 53
        refine (write_of HB2.out _ ([114, 101, 116, 117, 114, 110, 32] ++ textB v ++ [59, 10]) ?_ ?_).mono ?_
        · first
            | rfl
            | (simp [ba_append])
        · simp only [List.length_append, List.length_cons, List.length_nil]
          omega
        rintro e w3 ⟨rfl, hb3, hk3⟩
        have HB3 := Lib.hid hb3
        have HK3 := Lib.hid (HK2.out.trans hk3)
        have HC3 := Lib.hid (blk_kept hk3 HC2.out hkb.out (by decide))
        clear hb3 hk3 HB2 HK2 HC2
        go_wp2_with fail
        refine ⟨⟨i + 1, by have := HN.out; omega, by go_num, ?_, HK3.out⟩, by simp [intOf]; omega⟩
        have h9 := HB3.out
        rw [List.take_add_one, HS.out, Option.toList_some, stsB_append]
        simpa [stB, List.append_assoc, isSp, semi, sp] using h9
      case print a v =>
        obtain ⟨xv, rfl, hex⟩ := hst
        obtain ⟨gx, rfl⟩ := ExAt.ptr hex
        simp only [stB, List.length_append, isSp, semi, List.length_cons, List.length_nil] at hle
        have HTv := Lib.hid (fun (w1 : World) (hm : Mods None W0 w1) => text_any v _ w1 (HP.out.next hm) hnum (by omega) (hex.mods hm))
        have hz0 : wr.cell? ⟨q, i * 7, none⟩ = some (.int .i64 7) := HZ.out 0 _ rfl
        have hz1 : wr.cell? ⟨q, i * 7 + 1, none⟩ = some (.int .i64 a) := HZ.out 1 _ rfl
        have hz2 : wr.cell? ⟨q, i * 7 + 2, none⟩ = some (.string ⟨#[]⟩) := HZ.out 2 _ rfl
        have hz3 : wr.cell? ⟨q, i * 7 + 3, none⟩ = some (.pointer none) := HZ.out 3 _ rfl
        have hz4 : wr.cell? ⟨q, i * 7 + 4, none⟩ = some (.pointer (some ⟨gx, 0, none⟩)) := HZ.out 4 _ rfl
        have hz5 : wr.cell? ⟨q, i * 7 + 5, none⟩ = some (.slice none 0 0) := HZ.out 5 _ rfl
        have hz6 : wr.cell? ⟨q, i * 7 + 6, none⟩ = some (.slice none 0 0) := HZ.out 6 _ rfl
        have HBA := Lib.hid (HB.out.quiet ((Mods.refl None wr).alloc (.cells #[.int .i64 7, .int .i64 a, .string ⟨#[]⟩, .pointer none, .pointer (some ⟨gx, 0, none⟩), .slice none 0 0, .slice none 0 0] 143)))
        have hbl := bld_lt HB.out
        go_wp2_with fail
        go_at_call 53
        refine (write_any HBA.out tab (by simp only [List.length_append]; omega)).mono ?_
        rintro e w1 ⟨rfl, hb1, hk1⟩
        have HB1 := Lib.hid hb1
        have HK1 := Lib.hid ((HK.out.trans (kept_quiet ((Mods.refl None wr).alloc (.cells #[.int .i64 7, .int .i64 a, .string ⟨#[]⟩, .pointer none, .pointer (some ⟨gx, 0, none⟩), .slice none 0 0, .slice none 0 0] 143)))).trans hk1)
        have HC1 := Lib.hid (blk_kept hk1 (Blk.new wr #[.int .i64 7, .int .i64 a, .string ⟨#[]⟩, .pointer none, .pointer (some ⟨gx, 0, none⟩), .slice none 0 0, .slice none 0 0] 143) (by omega) (by decide))
        obtain ⟨k7, hk7⟩ : ∃ k, k = wr.heap.size := ⟨_, rfl⟩
        have hkb : Hid (k7 ≠ b) := Lib.hid (by omega)
        rw [← hk7] at HC1 ⊢
        clear hk7 hb1 hk1 hz0 hz1 hz2 hz3 hz4 hz5 hz6 HBA hbl HZ HB HK
        have c0 := HC1.out.cell (i := 0) rfl
        have c4 := HC1.out.cell (i := 4) rfl
        go_wp2_with fail
        go_at_call 87
        refine (HTv.out w1 HB1.out.mods).mono ?_
        rintro e w2 ⟨rfl, hm2⟩
        have HB2 := Lib.hid (HB1.out.quiet hm2)
        have HK2 := Lib.hid (HK1.out.trans (kept_quiet hm2))
        have HC2 := Lib.hid (HC1.out.mods hm2 (fun f => f))
        clear hm2 HB1 HK1 HC1
        have hs0 : ¬ 9223372036854775807 < 6 + (textB v).length := by omega
        have hs1 : ¬ 9223372036854775807 < 6 + (textB v).length + 2 := by omega
        go_wp2_with fail
        go_at_call 53
        refine (write_of HB2.out _ ([112, 114, 105, 110, 116, 32] ++ textB v ++ [59, 10]) ?_ ?_).mono ?_
        · first
            | rfl
            | (simp [ba_append])
        · simp only [List.length_append, List.length_cons, List.length_nil]
          omega
        rintro e w3 ⟨rfl, hb3, hk3⟩
        have HB3 := Lib.hid hb3
        have HK3 := Lib.hid (HK2.out.trans hk3)
        have HC3 := Lib.hid (blk_kept hk3 HC2.out hkb.out (by decide))
        clear hb3 hk3 HB2 HK2 HC2
        go_wp2_with fail
        refine ⟨⟨i + 1, by have := HN.out; omega, by go_num, ?_, HK3.out⟩, by simp [intOf]; omega⟩
        have h9 := HB3.out
        rw [List.take_add_one, HS.out, Option.toList_some, stsB_append]
        simpa [stB, List.append_assoc, isSp, semi, sp] using h9
      case call a v =>
        obtain ⟨xv, rfl, hex⟩ := hst
        obtain ⟨gx, rfl⟩ := ExAt.ptr hex
        simp only [stB, List.length_append, isSp, semi, List.length_cons, List.length_nil] at hle
        have HTv := Lib.hid (fun (w1 : World) (hm : Mods None W0 w1) => text_any v _ w1 (HP.out.next hm) hnum (by omega) (hex.mods hm))
        have hz0 : wr.cell? ⟨q, i * 7, none⟩ = some (.int .i64 8) := HZ.out 0 _ rfl
        have hz1 : wr.cell? ⟨q, i * 7 + 1, none⟩ = some (.int .i64 a) := HZ.out 1 _ rfl
        have hz2 : wr.cell? ⟨q, i * 7 + 2, none⟩ = some (.string ⟨#[]⟩) := HZ.out 2 _ rfl
        have hz3 : wr.cell? ⟨q, i * 7 + 3, none⟩ = some (.pointer none) := HZ.out 3 _ rfl
        have hz4 : wr.cell? ⟨q, i * 7 + 4, none⟩ = some (.pointer (some ⟨gx, 0, none⟩)) := HZ.out 4 _ rfl
        have hz5 : wr.cell? ⟨q, i * 7 + 5, none⟩ = some (.slice none 0 0) := HZ.out 5 _ rfl
        have hz6 : wr.cell? ⟨q, i * 7 + 6, none⟩ = some (.slice none 0 0) := HZ.out 6 _ rfl
        have HBA := Lib.hid (HB.out.quiet ((Mods.refl None wr).alloc (.cells #[.int .i64 8, .int .i64 a, .string ⟨#[]⟩, .pointer none, .pointer (some ⟨gx, 0, none⟩), .slice none 0 0, .slice none 0 0] 143)))
        have hbl := bld_lt HB.out
        go_wp2_with fail
        go_at_call 53
        refine (write_any HBA.out tab (by simp only [List.length_append]; omega)).mono ?_
        rintro e w1 ⟨rfl, hb1, hk1⟩
        have HB1 := Lib.hid hb1
        have HK1 := Lib.hid ((HK.out.trans (kept_quiet ((Mods.refl None wr).alloc (.cells #[.int .i64 8, .int .i64 a, .string ⟨#[]⟩, .pointer none, .pointer (some ⟨gx, 0, none⟩), .slice none 0 0, .slice none 0 0] 143)))).trans hk1)
        have HC1 := Lib.hid (blk_kept hk1 (Blk.new wr #[.int .i64 8, .int .i64 a, .string ⟨#[]⟩, .pointer none, .pointer (some ⟨gx, 0, none⟩), .slice none 0 0, .slice none 0 0] 143) (by omega) (by decide))
        obtain ⟨k7, hk7⟩ : ∃ k, k = wr.heap.size := ⟨_, rfl⟩
        have hkb : Hid (k7 ≠ b) := Lib.hid (by omega)
        rw [← hk7] at HC1 ⊢
        clear hk7 hb1 hk1 hz0 hz1 hz2 hz3 hz4 hz5 hz6 HBA hbl HZ HB HK
        have c0 := HC1.out.cell (i := 0) rfl
        have c4 := HC1.out.cell (i := 4) rfl
        go_wp2_with fail
        go_at_call 87
        refine (HTv.out w1 HB1.out.mods).mono ?_
        rintro e w2 ⟨rfl, hm2⟩
        have HB2 := Lib.hid (HB1.out.quiet hm2)
        have HK2 := Lib.hid (HK1.out.trans (kept_quiet hm2))
        have HC2 := Lib.hid (HC1.out.mods hm2 (fun f => f))
        clear hm2 HB1 HK1 HC1
        have hs0 : ¬ 9223372036854775807 < (textB v).length + 2 := by omega
        go_wp2_with fail
        go_at_call 53
        refine (write_of HB2.out _ (textB v ++ [59, 10]) ?_ ?_).mono ?_
        · first
            | rfl
            | (simp [ba_append])
        · simp only [List.length_append, List.length_cons, List.length_nil]
          omega
        rintro e w3 ⟨rfl, hb3, hk3⟩
        have HB3 := Lib.hid hb3
        have HK3 := Lib.hid (HK2.out.trans hk3)
        have HC3 := Lib.hid (blk_kept hk3 HC2.out hkb.out (by decide))
        clear hb3 hk3 HB2 HK2 HC2
        go_wp2_with fail
        refine ⟨⟨i + 1, by have := HN.out; omega, by go_num, ?_, HK3.out⟩, by simp [intOf]; omega⟩
        have h9 := HB3.out
        rw [List.take_add_one, HS.out, Option.toList_some, stsB_append]
        simpa [stB, List.append_assoc, isSp, semi, sp] using h9
      case var a s v =>
        obtain ⟨xv, rfl, hex⟩ := hst
        obtain ⟨gx, rfl⟩ := ExAt.ptr hex
        simp only [stB, List.length_append, isSp, semi, List.length_cons, List.length_nil] at hle
        have HTv := Lib.hid (fun (w1 : World) (hm : Mods None W0 w1) => text_any v _ w1 (HP.out.next hm) hnum (by omega) (hex.mods hm))
        have hz0 : wr.cell? ⟨q, i * 7, none⟩ = some (.int .i64 1) := HZ.out 0 _ rfl
        have hz1 : wr.cell? ⟨q, i * 7 + 1, none⟩ = some (.int .i64 a) := HZ.out 1 _ rfl
        have hz2 : wr.cell? ⟨q, i * 7 + 2, none⟩ = some (.string ⟨s.toArray⟩) := HZ.out 2 _ rfl
        have hz3 : wr.cell? ⟨q, i * 7 + 3, none⟩ = some (.pointer none) := HZ.out 3 _ rfl
        have hz4 : wr.cell? ⟨q, i * 7 + 4, none⟩ = some (.pointer (some ⟨gx, 0, none⟩)) := HZ.out 4 _ rfl
        have hz5 : wr.cell? ⟨q, i * 7 + 5, none⟩ = some (.slice none 0 0) := HZ.out 5 _ rfl
        have hz6 : wr.cell? ⟨q, i * 7 + 6, none⟩ = some (.slice none 0 0) := HZ.out 6 _ rfl
        have HBA := Lib.hid (HB.out.quiet ((Mods.refl None wr).alloc (.cells #[.int .i64 1, .int .i64 a, .string ⟨s.toArray⟩, .pointer none, .pointer (some ⟨gx, 0, none⟩), .slice none 0 0, .slice none 0 0] 143)))
        have hbl := bld_lt HB.out
        go_wp2_with fail
        go_at_call 53
        refine (write_any HBA.out tab (by simp only [List.length_append]; omega)).mono ?_
        rintro e w1 ⟨rfl, hb1, hk1⟩
        have HB1 := Lib.hid hb1
        have HK1 := Lib.hid ((HK.out.trans (kept_quiet ((Mods.refl None wr).alloc (.cells #[.int .i64 1, .int .i64 a, .string ⟨s.toArray⟩, .pointer none, .pointer (some ⟨gx, 0, none⟩), .slice none 0 0, .slice none 0 0] 143)))).trans hk1)
        have HC1 := Lib.hid (blk_kept hk1 (Blk.new wr #[.int .i64 1, .int .i64 a, .string ⟨s.toArray⟩, .pointer none, .pointer (some ⟨gx, 0, none⟩), .slice none 0 0, .slice none 0 0] 143) (by omega) (by decide))
        obtain ⟨k7, hk7⟩ : ∃ k, k = wr.heap.size := ⟨_, rfl⟩
        have hkb : Hid (k7 ≠ b) := Lib.hid (by omega)
        rw [← hk7] at HC1 ⊢
        clear hk7 hb1 hk1 hz0 hz1 hz2 hz3 hz4 hz5 hz6 HBA hbl HZ HB HK
        have c0 := HC1.out.cell (i := 0) rfl
        have c2 := HC1.out.cell (i := 2) rfl
        have c4 := HC1.out.cell (i := 4) rfl
        have hs0 : ¬ 9223372036854775807 < 4 + s.length := by omega
        have hs1 : ¬ 9223372036854775807 < 4 + s.length + 3 := by omega
        have hs2 : ¬ 9223372036854775807 < 4 + s.length + 3 + (textB v).length := by omega
        have hs3 : ¬ 9223372036854775807 < 4 + s.length + 3 + (textB v).length + 2 := by omega
        go_wp2_with fail
        go_region_held3 (fun w' => Hid (Blk w' k7 [.int .i64 1, .int .i64 a, .string ⟨s.toArray⟩, .pointer none, .pointer (some ⟨gx, 0, none⟩), .slice none 0 0, .slice none 0 0] 143) ∧ w'.cell? ⟨k7, 2, none⟩ = some (.string ⟨s.toArray⟩) ∧ w'.cell? ⟨k7, 4, none⟩ = some (.pointer (some ⟨gx, 0, none⟩)))
          (first
            | exact ⟨Lib.hid HC1.out.drew, c2, c4⟩
            | assumption
            | (go_split_ands; exact ⟨Lib.hid (Blk.mods hm2 (Hid.out ‹Hid (Blk _ k7 _ _)›) (fun f => f)), hm2.cellOf ‹_› (fun f => f), hm2.cellOf ‹_› (fun f => f)⟩)
            | (go_split_ands; exact ⟨Lib.hid (blk_kept hk3 (Hid.out ‹Hid (Blk _ k7 _ _)›) hkb.out (by decide)), (blk_kept hk3 (Hid.out ‹Hid (Blk _ k7 _ _)›) hkb.out (by decide)).cell (i := 2) rfl, (blk_kept hk3 (Hid.out ‹Hid (Blk _ k7 _ _)›) hkb.out (by decide)).cell (i := 4) rfl⟩))
          ((first
            | (go_at_call 53; go_split_ands; refine (write_of ((HB1.out.quiet (Mods.refl None w1).drew).quiet hm2) _ ([118, 97, 114, 32] ++ s ++ [32, 61, 32] ++ textB v ++ [59, 10]) (by first | rfl | simp [ba_append]) (by simp only [List.length_append, List.length_cons, List.length_nil]; omega)).mono ?_; rintro e w3 ⟨rfl, hb3, hk3⟩)
            | (go_at_call 87; go_split_ands; refine (HTv.out w1.drew HB1.out.mods.drew).mono ?_; rintro e w2 ⟨rfl, hm2⟩)))
        all_goals
          go_split_ands
          have HB3 := Lib.hid hb3
          have HK3 := Lib.hid ((HK1.out.trans (kept_quiet ((Mods.refl None w1).drew.trans hm2))).trans hk3)
          clear hb3 hk3 hm2
          go_wp2_with fail
          refine ⟨⟨i + 1, by have := HN.out; omega, by go_num, ?_, HK3.out⟩, by simp [intOf]; omega⟩
          have h9 := HB3.out
          rw [List.take_add_one, HS.out, Option.toList_some, stsB_append]
          simpa [stB, List.append_assoc, isSp, semi, sp] using h9
      case set a s v =>
        obtain ⟨xv, rfl, hex⟩ := hst
        obtain ⟨gx, rfl⟩ := ExAt.ptr hex
        simp only [stB, List.length_append, isSp, semi, List.length_cons, List.length_nil] at hle
        have HTv := Lib.hid (fun (w1 : World) (hm : Mods None W0 w1) => text_any v _ w1 (HP.out.next hm) hnum (by omega) (hex.mods hm))
        have hz0 : wr.cell? ⟨q, i * 7, none⟩ = some (.int .i64 2) := HZ.out 0 _ rfl
        have hz1 : wr.cell? ⟨q, i * 7 + 1, none⟩ = some (.int .i64 a) := HZ.out 1 _ rfl
        have hz2 : wr.cell? ⟨q, i * 7 + 2, none⟩ = some (.string ⟨s.toArray⟩) := HZ.out 2 _ rfl
        have hz3 : wr.cell? ⟨q, i * 7 + 3, none⟩ = some (.pointer none) := HZ.out 3 _ rfl
        have hz4 : wr.cell? ⟨q, i * 7 + 4, none⟩ = some (.pointer (some ⟨gx, 0, none⟩)) := HZ.out 4 _ rfl
        have hz5 : wr.cell? ⟨q, i * 7 + 5, none⟩ = some (.slice none 0 0) := HZ.out 5 _ rfl
        have hz6 : wr.cell? ⟨q, i * 7 + 6, none⟩ = some (.slice none 0 0) := HZ.out 6 _ rfl
        have HBA := Lib.hid (HB.out.quiet ((Mods.refl None wr).alloc (.cells #[.int .i64 2, .int .i64 a, .string ⟨s.toArray⟩, .pointer none, .pointer (some ⟨gx, 0, none⟩), .slice none 0 0, .slice none 0 0] 143)))
        have hbl := bld_lt HB.out
        go_wp2_with fail
        go_at_call 53
        refine (write_any HBA.out tab (by simp only [List.length_append]; omega)).mono ?_
        rintro e w1 ⟨rfl, hb1, hk1⟩
        have HB1 := Lib.hid hb1
        have HK1 := Lib.hid ((HK.out.trans (kept_quiet ((Mods.refl None wr).alloc (.cells #[.int .i64 2, .int .i64 a, .string ⟨s.toArray⟩, .pointer none, .pointer (some ⟨gx, 0, none⟩), .slice none 0 0, .slice none 0 0] 143)))).trans hk1)
        have HC1 := Lib.hid (blk_kept hk1 (Blk.new wr #[.int .i64 2, .int .i64 a, .string ⟨s.toArray⟩, .pointer none, .pointer (some ⟨gx, 0, none⟩), .slice none 0 0, .slice none 0 0] 143) (by omega) (by decide))
        obtain ⟨k7, hk7⟩ : ∃ k, k = wr.heap.size := ⟨_, rfl⟩
        have hkb : Hid (k7 ≠ b) := Lib.hid (by omega)
        rw [← hk7] at HC1 ⊢
        clear hk7 hb1 hk1 hz0 hz1 hz2 hz3 hz4 hz5 hz6 HBA hbl HZ HB HK
        have c0 := HC1.out.cell (i := 0) rfl
        have c2 := HC1.out.cell (i := 2) rfl
        have c4 := HC1.out.cell (i := 4) rfl
        have hs0 : ¬ 9223372036854775807 < s.length + 3 := by omega
        have hs1 : ¬ 9223372036854775807 < s.length + 3 + (textB v).length := by omega
        have hs2 : ¬ 9223372036854775807 < s.length + 3 + (textB v).length + 2 := by omega
        go_wp2_with fail
        go_region_held3 (fun w' => Hid (Blk w' k7 [.int .i64 2, .int .i64 a, .string ⟨s.toArray⟩, .pointer none, .pointer (some ⟨gx, 0, none⟩), .slice none 0 0, .slice none 0 0] 143) ∧ w'.cell? ⟨k7, 2, none⟩ = some (.string ⟨s.toArray⟩) ∧ w'.cell? ⟨k7, 4, none⟩ = some (.pointer (some ⟨gx, 0, none⟩)))
          (first
            | exact ⟨Lib.hid HC1.out.drew, c2, c4⟩
            | assumption
            | (go_split_ands; exact ⟨Lib.hid (Blk.mods hm2 (Hid.out ‹Hid (Blk _ k7 _ _)›) (fun f => f)), hm2.cellOf ‹_› (fun f => f), hm2.cellOf ‹_› (fun f => f)⟩)
            | (go_split_ands; exact ⟨Lib.hid (blk_kept hk3 (Hid.out ‹Hid (Blk _ k7 _ _)›) hkb.out (by decide)), (blk_kept hk3 (Hid.out ‹Hid (Blk _ k7 _ _)›) hkb.out (by decide)).cell (i := 2) rfl, (blk_kept hk3 (Hid.out ‹Hid (Blk _ k7 _ _)›) hkb.out (by decide)).cell (i := 4) rfl⟩))
          ((first
            | (go_at_call 53; go_split_ands; refine (write_of ((HB1.out.quiet (Mods.refl None w1).drew).quiet hm2) _ (s ++ [32, 61, 32] ++ textB v ++ [59, 10]) (by first | rfl | simp [ba_append]) (by simp only [List.length_append, List.length_cons, List.length_nil]; omega)).mono ?_; rintro e w3 ⟨rfl, hb3, hk3⟩)
            | (go_at_call 87; go_split_ands; refine (HTv.out w1.drew HB1.out.mods.drew).mono ?_; rintro e w2 ⟨rfl, hm2⟩)))
        all_goals
          go_split_ands
          have HB3 := Lib.hid hb3
          have HK3 := Lib.hid ((HK1.out.trans (kept_quiet ((Mods.refl None w1).drew.trans hm2))).trans hk3)
          clear hb3 hk3 hm2
          go_wp2_with fail
          refine ⟨⟨i + 1, by have := HN.out; omega, by go_num, ?_, HK3.out⟩, by simp [intOf]; omega⟩
          have h9 := HB3.out
          rw [List.take_add_one, HS.out, Option.toList_some, stsB_append]
          simpa [stB, List.append_assoc, isSp, semi, sp] using h9
      case put a s iv v =>
        obtain ⟨xv, yv, rfl, hex, hey⟩ := hst
        obtain ⟨gx, rfl⟩ := ExAt.ptr hex
        obtain ⟨gy, rfl⟩ := ExAt.ptr hey
        simp only [stB, List.length_append, isSp, semi, List.length_cons, List.length_nil] at hle
        have HTiv := Lib.hid (fun (w1 : World) (hm : Mods None W0 w1) => text_any iv _ w1 (HP.out.next hm) hnum.1 (by omega) (hex.mods hm))
        have HTv := Lib.hid (fun (w1 : World) (hm : Mods None W0 w1) => text_any v _ w1 (HP.out.next hm) hnum.2 (by omega) (hey.mods hm))
        have hz0 : wr.cell? ⟨q, i * 7, none⟩ = some (.int .i64 3) := HZ.out 0 _ rfl
        have hz1 : wr.cell? ⟨q, i * 7 + 1, none⟩ = some (.int .i64 a) := HZ.out 1 _ rfl
        have hz2 : wr.cell? ⟨q, i * 7 + 2, none⟩ = some (.string ⟨s.toArray⟩) := HZ.out 2 _ rfl
        have hz3 : wr.cell? ⟨q, i * 7 + 3, none⟩ = some (.pointer (some ⟨gx, 0, none⟩)) := HZ.out 3 _ rfl
        have hz4 : wr.cell? ⟨q, i * 7 + 4, none⟩ = some (.pointer (some ⟨gy, 0, none⟩)) := HZ.out 4 _ rfl
        have hz5 : wr.cell? ⟨q, i * 7 + 5, none⟩ = some (.slice none 0 0) := HZ.out 5 _ rfl
        have hz6 : wr.cell? ⟨q, i * 7 + 6, none⟩ = some (.slice none 0 0) := HZ.out 6 _ rfl
        have HBA := Lib.hid (HB.out.quiet ((Mods.refl None wr).alloc (.cells #[.int .i64 3, .int .i64 a, .string ⟨s.toArray⟩, .pointer (some ⟨gx, 0, none⟩), .pointer (some ⟨gy, 0, none⟩), .slice none 0 0, .slice none 0 0] 143)))
        have hbl := bld_lt HB.out
        go_wp2_with fail
        go_at_call 53
        refine (write_any HBA.out tab (by simp only [List.length_append]; omega)).mono ?_
        rintro e w1 ⟨rfl, hb1, hk1⟩
        have HB1 := Lib.hid hb1
        have HK1 := Lib.hid ((HK.out.trans (kept_quiet ((Mods.refl None wr).alloc (.cells #[.int .i64 3, .int .i64 a, .string ⟨s.toArray⟩, .pointer (some ⟨gx, 0, none⟩), .pointer (some ⟨gy, 0, none⟩), .slice none 0 0, .slice none 0 0] 143)))).trans hk1)
        have HC1 := Lib.hid (blk_kept hk1 (Blk.new wr #[.int .i64 3, .int .i64 a, .string ⟨s.toArray⟩, .pointer (some ⟨gx, 0, none⟩), .pointer (some ⟨gy, 0, none⟩), .slice none 0 0, .slice none 0 0] 143) (by omega) (by decide))
        obtain ⟨k7, hk7⟩ : ∃ k, k = wr.heap.size := ⟨_, rfl⟩
        have hkb : Hid (k7 ≠ b) := Lib.hid (by omega)
        rw [← hk7] at HC1 ⊢
        clear hk7 hb1 hk1 hz0 hz1 hz2 hz3 hz4 hz5 hz6 HBA hbl HZ HB HK
        have c0 := HC1.out.cell (i := 0) rfl
        have c2 := HC1.out.cell (i := 2) rfl
        have c3 := HC1.out.cell (i := 3) rfl
        have c4 := HC1.out.cell (i := 4) rfl
        have hs0 : ¬ 9223372036854775807 < s.length + 1 := by omega
        have hs1 : ¬ 9223372036854775807 < s.length + 1 + (textB iv).length := by omega
        have hs2 : ¬ 9223372036854775807 < s.length + 1 + (textB iv).length + 4 := by omega
        have hs3 : ¬ 9223372036854775807 < s.length + 1 + (textB iv).length + 4 + (textB v).length := by omega
        have hs4 : ¬ 9223372036854775807 < s.length + 1 + (textB iv).length + 4 + (textB v).length + 2 := by omega
        have HM0 := Lib.hid HB1.out.mods.drew
        go_wp2_with fail
        go_region_held3 (fun w' => Hid (Blk w' k7 [.int .i64 3, .int .i64 a, .string ⟨s.toArray⟩, .pointer (some ⟨gx, 0, none⟩), .pointer (some ⟨gy, 0, none⟩), .slice none 0 0, .slice none 0 0] 143) ∧ w'.cell? ⟨k7, 2, none⟩ = some (.string ⟨s.toArray⟩) ∧ w'.cell? ⟨k7, 3, none⟩ = some (.pointer (some ⟨gx, 0, none⟩)) ∧ w'.cell? ⟨k7, 4, none⟩ = some (.pointer (some ⟨gy, 0, none⟩)))
          (first
            | exact ⟨Lib.hid HC1.out.drew, c2, c3, c4⟩
            | assumption
            | (go_split_ands; exact ⟨Lib.hid (blk_kept hk3 (Hid.out ‹Hid (Blk _ k7 _ _)›) hkb.out (by decide)), (blk_kept hk3 (Hid.out ‹Hid (Blk _ k7 _ _)›) hkb.out (by decide)).cell (i := 2) rfl, (blk_kept hk3 (Hid.out ‹Hid (Blk _ k7 _ _)›) hkb.out (by decide)).cell (i := 3) rfl, (blk_kept hk3 (Hid.out ‹Hid (Blk _ k7 _ _)›) hkb.out (by decide)).cell (i := 4) rfl⟩)
            | (go_split_ands; exact ⟨Lib.hid (Blk.mods hm2 (Hid.out ‹Hid (Blk _ k7 _ _)›) (fun f => f)), hm2.cellOf ‹_› (fun f => f), hm2.cellOf ‹_› (fun f => f), hm2.cellOf ‹_› (fun f => f)⟩)
            | (go_split_ands; exact ⟨Lib.hid (Blk.mods hm4 (Hid.out ‹Hid (Blk _ k7 _ _)›) (fun f => f)), hm4.cellOf ‹_› (fun f => f), hm4.cellOf ‹_› (fun f => f), hm4.cellOf ‹_› (fun f => f)⟩))
          ((first
            | (go_at_call 53; go_split_ands; refine (write_of ((HB1.out.quiet (Mods.refl None w1).drew).quiet (Mods.trans hm2 hm4)) _ (s ++ [91] ++ textB iv ++ [93, 32, 61, 32] ++ textB v ++ [59, 10]) (by first | rfl | simp [ba_append]) (by simp only [List.length_append, List.length_cons, List.length_nil]; omega)).mono ?_; rintro e w3 ⟨rfl, hb3, hk3⟩; have hmm := Mods.trans hm2 hm4)
            | (go_at_call 53; go_split_ands; refine (write_of ((HB1.out.quiet (Mods.refl None w1).drew).quiet (Mods.trans hm4 hm2)) _ (s ++ [91] ++ textB iv ++ [93, 32, 61, 32] ++ textB v ++ [59, 10]) (by first | rfl | simp [ba_append]) (by simp only [List.length_append, List.length_cons, List.length_nil]; omega)).mono ?_; rintro e w3 ⟨rfl, hb3, hk3⟩; have hmm := Mods.trans hm4 hm2)
            | (go_at_call_of 87 (Value.pointer (some ⟨gx, 0, none⟩)); go_split_ands; refine (HTiv.out _ HM0.out).mono ?_; rintro e w2 ⟨rfl, hm2⟩)
            | (go_at_call_of 87 (Value.pointer (some ⟨gy, 0, none⟩)); go_split_ands; refine (HTv.out _ HM0.out).mono ?_; rintro e w4 ⟨rfl, hm4⟩)
            | (go_at_call_of 87 (Value.pointer (some ⟨gx, 0, none⟩)); go_split_ands; refine (HTiv.out _ (HM0.out.trans hm4)).mono ?_; rintro e w2 ⟨rfl, hm2⟩)
            | (go_at_call_of 87 (Value.pointer (some ⟨gy, 0, none⟩)); go_split_ands; refine (HTv.out _ (HM0.out.trans hm2)).mono ?_; rintro e w4 ⟨rfl, hm4⟩)))
        all_goals
          go_split_ands
          have HB3 := Lib.hid hb3
          have HK3 := Lib.hid ((HK1.out.trans (kept_quiet ((Mods.refl None w1).drew.trans hmm))).trans hk3)
          clear hb3 hk3 hmm hm2 hm4
          go_wp2_with fail
          refine ⟨⟨i + 1, by have := HN.out; omega, by go_num, ?_, HK3.out⟩, by simp [intOf]; omega⟩
          have h9 := HB3.out
          rw [List.take_add_one, HS.out, Option.toList_some, stsB_append]
          simpa [stB, List.append_assoc, isSp, semi, sp] using h9
      case loop a v t2 =>
        obtain ⟨xv, p, vp, rfl, hex, hrp, hsp⟩ := hst
        obtain ⟨gx, rfl⟩ := ExAt.ptr hex
        obtain ⟨pa, pc, rfl⟩ := lex_form hrp.1
        simp only [stB, List.length_append, List.length_cons, List.length_nil] at hle
        have htl : (tab ++ sp).length = tab.length + 2 := by simp [sp]
        have HTv := Lib.hid (fun (w1 : World) (hm : Mods None W0 w1) => text_any v _ w1 (HP.out.next hm) hnum.1 (by omega) (hex.mods hm))
        have HRP := Lib.hid hrp
        have HSP := Lib.hid hsp
        have HIN2 := Lib.hid hin
        have HNU := Lib.hid hnum
        clear hrp hsp hin hnum
        have hz0 : wr.cell? ⟨q, i * 7, none⟩ = some (.int .i64 5) := HZ.out 0 _ rfl
        have hz1 : wr.cell? ⟨q, i * 7 + 1, none⟩ = some (.int .i64 a) := HZ.out 1 _ rfl
        have hz2 : wr.cell? ⟨q, i * 7 + 2, none⟩ = some (.string ⟨#[]⟩) := HZ.out 2 _ rfl
        have hz3 : wr.cell? ⟨q, i * 7 + 3, none⟩ = some (.pointer none) := HZ.out 3 _ rfl
        have hz4 : wr.cell? ⟨q, i * 7 + 4, none⟩ = some (.pointer (some ⟨gx, 0, none⟩)) := HZ.out 4 _ rfl
        have hz5 : wr.cell? ⟨q, i * 7 + 5, none⟩ = some (.slice pa t2.length pc) := HZ.out 5 _ rfl
        have hz6 : wr.cell? ⟨q, i * 7 + 6, none⟩ = some (.slice none 0 0) := HZ.out 6 _ rfl
        have HBA := Lib.hid (HB.out.quiet ((Mods.refl None wr).alloc (.cells #[.int .i64 5, .int .i64 a, .string ⟨#[]⟩, .pointer none, .pointer (some ⟨gx, 0, none⟩), .slice pa t2.length pc, .slice none 0 0] 143)))
        have hbl := bld_lt HB.out
        go_wp2_with fail
        go_at_call 53
        refine (write_any HBA.out tab (by simp only [List.length_append]; omega)).mono ?_
        rintro e w1 ⟨rfl, hb1, hk1⟩
        have HB1 := Lib.hid hb1
        have HK1 := Lib.hid ((HK.out.trans (kept_quiet ((Mods.refl None wr).alloc (.cells #[.int .i64 5, .int .i64 a, .string ⟨#[]⟩, .pointer none, .pointer (some ⟨gx, 0, none⟩), .slice pa t2.length pc, .slice none 0 0] 143)))).trans hk1)
        have HC1 := Lib.hid (blk_kept hk1 (Blk.new wr #[.int .i64 5, .int .i64 a, .string ⟨#[]⟩, .pointer none, .pointer (some ⟨gx, 0, none⟩), .slice pa t2.length pc, .slice none 0 0] 143) (by omega) (by decide))
        obtain ⟨k7, hk7⟩ : ∃ k, k = wr.heap.size := ⟨_, rfl⟩
        have hkb : Hid (k7 ≠ b) := Lib.hid (by omega)
        rw [← hk7] at HC1 ⊢
        clear hk7 hb1 hk1 hz0 hz1 hz2 hz3 hz4 hz5 hz6 HBA hbl HZ HB HK
        have c0 := HC1.out.cell (i := 0) rfl
        have c4 := HC1.out.cell (i := 4) rfl
        have c5 := HC1.out.cell (i := 5) rfl
        have c6 := HC1.out.cell (i := 6) rfl
        go_wp2_with fail
        go_at_call 87
        refine (HTv.out w1 HB1.out.mods).mono ?_
        rintro e w2 ⟨rfl, hm2⟩
        have HB2 := Lib.hid (HB1.out.quiet hm2)
        have HK2 := Lib.hid (HK1.out.trans (kept_quiet hm2))
        have HC2 := Lib.hid (HC1.out.mods hm2 (fun f => f))
        clear hm2 HB1 HK1 HC1
        have hs0 : ¬ 9223372036854775807 < 7 + (textB v).length := by omega
        have hs1 : ¬ 9223372036854775807 < 7 + (textB v).length + 4 := by omega
        go_wp2_with fail
        go_at_call 53
        refine (write_of HB2.out _ ([119, 104, 105, 108, 101] ++ [32, 40] ++ textB v ++ [41, 32, 123, 10]) ?_ ?_).mono ?_
        · first
            | rfl
            | (simp [ba_append])
        · simp only [List.length_append, List.length_cons, List.length_nil]
          omega
        rintro e w3 ⟨rfl, hb3, hk3⟩
        have HB3 := Lib.hid hb3
        have HK3 := Lib.hid (HK2.out.trans hk3)
        have HC3 := Lib.hid (blk_kept hk3 HC2.out hkb.out (by decide))
        clear hb3 hk3 HB2 HK2 HC2
        have c5 := HC3.out.cell (i := 5) rfl
        have c6 := HC3.out.cell (i := 6) rfl
        have hs5 : ¬ 9223372036854775807 < tab.length + 2 := by omega
        go_wp2_with fail
        go_at_call 55
        refine (stsc_of HIN2.out HB3.out HP.out HNU.out.2 HRP.out HSP.out _ (tab ++ sp) ?_ ?_).mono ?_
        · first
            | rfl
            | (simp [ba_append, sp])
        · have hsp2 : sp.length = 2 := rfl
          simp only [List.length_append, List.length_cons, List.length_nil]
          omega
        rintro e w4 ⟨rfl, hb4, hk4⟩
        have HB4 := Lib.hid hb4
        have HK4 := Lib.hid (HK3.out.trans hk4)
        have HC4 := Lib.hid (blk_kept hk4 HC3.out hkb.out (by decide))
        clear hb4 hk4 HB3 HK3 HC3
        have c6 := HC4.out.cell (i := 6) rfl
        go_wp2_with fail
        go_at_call 53
        refine (write_of HB4.out _ (tab ++ [125, 10]) ?_ ?_).mono ?_
        · first
            | rfl
            | (simp [ba_append])
        · simp only [List.length_append, List.length_cons, List.length_nil]
          omega
        rintro e w5 ⟨rfl, hb5, hk5⟩
        have HB5 := Lib.hid hb5
        have HK5 := Lib.hid (HK4.out.trans hk5)
        have HC5 := Lib.hid (blk_kept hk5 HC4.out hkb.out (by decide))
        clear hb5 hk5 HB4 HK4 HC4
        go_wp2_with fail
        refine ⟨⟨i + 1, by have := HN.out; omega, by go_num, ?_, HK5.out⟩, by simp [intOf]; omega⟩
        have h9 := HB5.out
        rw [List.take_add_one, HS.out, Option.toList_some, stsB_append]
        simpa [stB, List.append_assoc, isSp, semi, sp] using h9
      case cond a v t2 e2 =>
        obtain ⟨xv, p, vp, q2, vq, rfl, hex, hrp, hsp, hrq, hsq⟩ := hst
        obtain ⟨gx, rfl⟩ := ExAt.ptr hex
        obtain ⟨pa, pc, rfl⟩ := lex_form hrp.1
        obtain ⟨qa, qc, rfl⟩ := lex_form hrq.1
        simp only [stB, List.length_append, List.length_cons, List.length_nil] at hle
        have htl : (tab ++ sp).length = tab.length + 2 := by simp [sp]
        have HTv := Lib.hid (fun (w1 : World) (hm : Mods None W0 w1) => text_any v _ w1 (HP.out.next hm) hnum.1 (by omega) (hex.mods hm))
        have HRP := Lib.hid hrp
        have HSP := Lib.hid hsp
        have HRQ := Lib.hid hrq
        have HSQ := Lib.hid hsq
        have HIN2 := Lib.hid hin
        have HNU := Lib.hid hnum
        have HLE := Lib.hid hle
        have hle2 : (textB v).length + (stsB (tab ++ sp) t2).length + 2 * tab.length + 10 + (stsB tab (l.take i)).length ≤ (stsB tab l).length := by omega
        clear hrp hsp hin hnum hrq hsq hle
        have hz0 : wr.cell? ⟨q, i * 7, none⟩ = some (.int .i64 4) := HZ.out 0 _ rfl
        have hz1 : wr.cell? ⟨q, i * 7 + 1, none⟩ = some (.int .i64 a) := HZ.out 1 _ rfl
        have hz2 : wr.cell? ⟨q, i * 7 + 2, none⟩ = some (.string ⟨#[]⟩) := HZ.out 2 _ rfl
        have hz3 : wr.cell? ⟨q, i * 7 + 3, none⟩ = some (.pointer none) := HZ.out 3 _ rfl
        have hz4 : wr.cell? ⟨q, i * 7 + 4, none⟩ = some (.pointer (some ⟨gx, 0, none⟩)) := HZ.out 4 _ rfl
        have hz5 : wr.cell? ⟨q, i * 7 + 5, none⟩ = some (.slice pa t2.length pc) := HZ.out 5 _ rfl
        have hz6 : wr.cell? ⟨q, i * 7 + 6, none⟩ = some (.slice qa e2.length qc) := HZ.out 6 _ rfl
        have HBA := Lib.hid (HB.out.quiet ((Mods.refl None wr).alloc (.cells #[.int .i64 4, .int .i64 a, .string ⟨#[]⟩, .pointer none, .pointer (some ⟨gx, 0, none⟩), .slice pa t2.length pc, .slice qa e2.length qc] 143)))
        have hbl := bld_lt HB.out
        go_wp2_with fail
        go_at_call 53
        refine (write_any HBA.out tab (by simp only [List.length_append]; omega)).mono ?_
        rintro e w1 ⟨rfl, hb1, hk1⟩
        have HB1 := Lib.hid hb1
        have HK1 := Lib.hid ((HK.out.trans (kept_quiet ((Mods.refl None wr).alloc (.cells #[.int .i64 4, .int .i64 a, .string ⟨#[]⟩, .pointer none, .pointer (some ⟨gx, 0, none⟩), .slice pa t2.length pc, .slice qa e2.length qc] 143)))).trans hk1)
        have HC1 := Lib.hid (blk_kept hk1 (Blk.new wr #[.int .i64 4, .int .i64 a, .string ⟨#[]⟩, .pointer none, .pointer (some ⟨gx, 0, none⟩), .slice pa t2.length pc, .slice qa e2.length qc] 143) (by omega) (by decide))
        obtain ⟨k7, hk7⟩ : ∃ k, k = wr.heap.size := ⟨_, rfl⟩
        have hkb : Hid (k7 ≠ b) := Lib.hid (by omega)
        rw [← hk7] at HC1 ⊢
        clear hk7 hb1 hk1 hz0 hz1 hz2 hz3 hz4 hz5 hz6 HBA hbl HZ HB HK
        have c0 := HC1.out.cell (i := 0) rfl
        have c4 := HC1.out.cell (i := 4) rfl
        have c5 := HC1.out.cell (i := 5) rfl
        have c6 := HC1.out.cell (i := 6) rfl
        go_wp2_with fail
        go_at_call 87
        refine (HTv.out w1 HB1.out.mods).mono ?_
        rintro e w2 ⟨rfl, hm2⟩
        have HB2 := Lib.hid (HB1.out.quiet hm2)
        have HK2 := Lib.hid (HK1.out.trans (kept_quiet hm2))
        have HC2 := Lib.hid (HC1.out.mods hm2 (fun f => f))
        clear hm2 HB1 HK1 HC1
        have hs0 : ¬ 9223372036854775807 < 4 + (textB v).length := by omega
        have hs1 : ¬ 9223372036854775807 < 4 + (textB v).length + 4 := by omega
        go_wp2_with fail
        go_at_call 53
        refine (write_of HB2.out _ ([105, 102] ++ [32, 40] ++ textB v ++ [41, 32, 123, 10]) ?_ ?_).mono ?_
        · first
            | rfl
            | (simp [ba_append])
        · simp only [List.length_append, List.length_cons, List.length_nil]
          omega
        rintro e w3 ⟨rfl, hb3, hk3⟩
        have HB3 := Lib.hid hb3
        have HK3 := Lib.hid (HK2.out.trans hk3)
        have HC3 := Lib.hid (blk_kept hk3 HC2.out hkb.out (by decide))
        clear hb3 hk3 HB2 HK2 HC2
        have c5 := HC3.out.cell (i := 5) rfl
        have c6 := HC3.out.cell (i := 6) rfl
        have hs5 : ¬ 9223372036854775807 < tab.length + 2 := by omega
        go_wp2_with fail
        go_at_call 55
        refine (stsc_of HIN2.out.1 HB3.out HP.out HNU.out.2.1 HRP.out HSP.out _ (tab ++ sp) ?_ ?_).mono ?_
        · first
            | rfl
            | (simp [ba_append, sp])
        · have hsp2 : sp.length = 2 := rfl
          simp only [List.length_append, List.length_cons, List.length_nil]
          omega
        rintro e w4 ⟨rfl, hb4, hk4⟩
        have HB4 := Lib.hid hb4
        have HK4 := Lib.hid (HK3.out.trans hk4)
        have HC4 := Lib.hid (blk_kept hk4 HC3.out hkb.out (by decide))
        clear hb4 hk4 HB3 HK3 HC3
        have c6 := HC4.out.cell (i := 6) rfl
        by_cases he2 : e2.length = 0
        · have he3 : e2 = [] := List.eq_nil_of_length_eq_zero he2
          have hei : ¬ (0 : Int) < (e2.length : Int) := by omega
          have HE3 := Lib.hid he3
          clear he2 he3
          go_wp2_with fail
          go_at_call 53
          refine (write_of HB4.out _ (tab ++ [125, 10]) ?_ ?_).mono ?_
          · first
              | rfl
              | (simp [ba_append])
          · simp only [List.length_append, List.length_cons, List.length_nil]
            omega
          rintro e w5 ⟨rfl, hb5, hk5⟩
          have HB5 := Lib.hid hb5
          have HK5 := Lib.hid (HK4.out.trans hk5)
          have HC5 := Lib.hid (blk_kept hk5 HC4.out hkb.out (by decide))
          clear hb5 hk5 HB4 HK4 HC4
          go_wp2_with fail
          refine ⟨⟨i + 1, by have := HN.out; omega, by go_num, ?_, HK5.out⟩, by simp [intOf]; omega⟩
          have h9 := HB5.out
          rw [List.take_add_one, HS.out, Option.toList_some, stsB_append]
          rw [HE3.out] at *
          simpa [stB, List.append_assoc, isSp, semi, sp] using h9
        · have hei : (0 : Int) < (e2.length : Int) := by omega
          have he3 : e2.isEmpty = false := by cases e2 <;> simp at he2 ⊢
          have hle3 := HLE.out
          rw [he3] at hle3
          simp only [Bool.false_eq_true, ↓reduceIte, List.length_append, List.length_cons, List.length_nil] at hle3
          have HE3 := Lib.hid he3
          clear he2 he3
          have hs6 : ¬ 9223372036854775807 < tab.length + 9 := by omega
          go_wp2_with fail
          go_at_call 53
          refine (write_of HB4.out _ (tab ++ [125, 32, 101, 108, 115, 101, 32, 123, 10]) ?_ ?_).mono ?_
          · first
              | rfl
              | (simp [ba_append])
          · simp only [List.length_append, List.length_cons, List.length_nil]
            omega
          rintro e w5 ⟨rfl, hb5, hk5⟩
          have HB5 := Lib.hid hb5
          have HK5 := Lib.hid (HK4.out.trans hk5)
          have HC5 := Lib.hid (blk_kept hk5 HC4.out hkb.out (by decide))
          clear hb5 hk5 HB4 HK4 HC4
          have c6 := HC5.out.cell (i := 6) rfl
          go_wp2_with fail
          go_at_call 55
          refine (stsc_of HIN2.out.2 HB5.out HP.out HNU.out.2.2 HRQ.out HSQ.out _ (tab ++ sp) ?_ ?_).mono ?_
          · first
              | rfl
              | (simp [ba_append, sp])
          · have hsp2 : sp.length = 2 := rfl
            simp only [List.length_append, List.length_cons, List.length_nil]
            omega
          rintro e w6 ⟨rfl, hb6, hk6⟩
          have HB6 := Lib.hid hb6
          have HK6 := Lib.hid (HK5.out.trans hk6)
          have HC6 := Lib.hid (blk_kept hk6 HC5.out hkb.out (by decide))
          clear hb6 hk6 HB5 HK5 HC5
          go_wp2_with fail
          go_at_call 53
          refine (write_of HB6.out _ (tab ++ [125, 10]) ?_ ?_).mono ?_
          · first
              | rfl
              | (simp [ba_append])
          · simp only [List.length_append, List.length_cons, List.length_nil]
            omega
          rintro e w7 ⟨rfl, hb7, hk7⟩
          have HB7 := Lib.hid hb7
          have HK7 := Lib.hid (HK6.out.trans hk7)
          have HC7 := Lib.hid (blk_kept hk7 HC6.out hkb.out (by decide))
          clear hb7 hk7 HB6 HK6 HC6
          go_wp2_with fail
          refine ⟨⟨i + 1, by have := HN.out; omega, by go_num, ?_, HK7.out⟩, by simp [intOf]; omega⟩
          have h9 := HB7.out
          rw [List.take_add_one, HS.out, Option.toList_some, stsB_append]
          simpa [stB, HE3.out, List.append_assoc, isSp, semi, sp] using h9
    · obtain rfl : i = l.length := by have := HN.out; omega
      have hii : ¬ (l.length : Int) < (n : Int) := by omega
      go_wp2
      go_end0
      refine ⟨rfl, ?_, HK.out⟩
      have := HB.out
      rwa [List.take_length] at this
mutual
theorem inner_any : (s : St) → Inner s
  | .var .. => trivial
  | .set .. => trivial
  | .put .. => trivial
  | .cond a v t e => ⟨sts_of t (inners_any t), sts_of e (inners_any e)⟩
  | .loop a v t => sts_of t (inners_any t)
  | .ret .. => trivial
  | .print .. => trivial
  | .call .. => trivial
theorem inners_any : (l : List St) → ∀ s ∈ l, Inner s
  | [], s, h => nomatch h
  | a :: r, s, h => by
    rcases List.mem_cons.1 h with he | h
    · rw [he]; exact inner_any a
    · exact inners_any r s h
end
theorem sts_any (l : List St) : StsC l := sts_of l (inners_any l)
end Go.Proofs.YtdgedlhefjmcpaaGreatDoor.TreeP
namespace Go.Proofs.YtdgedlhefjmcpaaGreatDoor.TreeP
open Go.RowKit Go.Proofs.YtdgedlhefjmcpaaGreatDoor.Wo
set_option linter.unusedVariables false
set_option linter.unusedSimpArgs false
def FnOk (x : Fn) : Prop := (∀ p ∈ x.params, p.2 = 1 ∨ p.2 = 2) ∧ NumSts x.body
theorem FnAt.len {W : World} {S : Nat → Prop} {s : Fn} {cs : List Value} (h : FnAt W S s cs) : cs.length = 4 := by
  obtain ⟨_, _, _, _, _, _, rfl⟩ := h.shape
  rfl
theorem FnsAt.at_ {W : World} {S : Nat → Prop} : {l : List Fn} → {vs : List Value} → FnsAt W S l vs → (i : Nat) → (s : Fn) → l[i]? = some s → ∃ cs, FnAt W S s cs ∧ ∀ j c, cs[j]? = some c → vs[i * 4 + j]? = some c
  | [], vs, h, i, e, he => by simp at he
  | a :: r, vs, h, i, e, he => by
    obtain ⟨x, r2, rfl, h1, h2⟩ := h
    have h4 := h1.len
    cases i with
    | zero =>
      simp only [List.getElem?_cons_zero, Option.some.injEq] at he
      subst he
      refine ⟨x, h1, fun j c hj => ?_⟩
      rw [Nat.zero_mul, Nat.zero_add, List.getElem?_append_left (List.getElem?_eq_some_iff.1 hj).1]
      exact hj
    | succ i =>
      obtain ⟨cs, h3, h5⟩ := FnsAt.at_ h2 i e (by simpa using he)
      refine ⟨cs, h3, fun j c hj => ?_⟩
      rw [List.getElem?_append_right (by omega), show (i + 1) * 4 + j - x.length = i * 4 + j by omega]
      exact h5 j c hj
theorem pcells_at : (l : List (List UInt8 × Int)) → (i : Nat) → (p : List UInt8 × Int) → l[i]? = some p → (pcells l)[i * 2]? = some (str p.1) ∧ (pcells l)[i * 2 + 1]? = some (.int .i64 p.2)
  | [], i, p, h => by simp at h
  | (n, t) :: r, 0, p, h => by
    simp only [List.getElem?_cons_zero, Option.some.injEq] at h
    subst h
    exact ⟨rfl, rfl⟩
  | (n, t) :: r, i + 1, p, h => by
    have := pcells_at r i p (by simpa using h)
    simp only [pcells]
    rw [show (i + 1) * 2 = i * 2 + 2 by omega]
    exact this
theorem und3 : Tryz.prog.underlying 115 = some (.array 3 9) := by kernel_rfl
theorem ty_1 (W : World) : Sem.run Tryz.prog (Instr.index 115 (.agg #[.string ⟨#[]⟩, .string ⟨#[105, 110, 116]⟩, .string ⟨#[97, 114, 114]⟩]) (.int .i64 1)) W = .ok (.string ⟨#[105, 110, 116]⟩) W := by
  simp [Instr.index, run_underlying und3, asIntOf, go_sem]
theorem ty_2 (W : World) : Sem.run Tryz.prog (Instr.index 115 (.agg #[.string ⟨#[]⟩, .string ⟨#[105, 110, 116]⟩, .string ⟨#[97, 114, 114]⟩]) (.int .i64 2)) W = .ok (.string ⟨#[97, 114, 114]⟩) W := by
  simp [Instr.index, run_underlying und3, asIntOf, go_sem]
theorem fnB_le : (l : List Fn) → (i : Nat) → (s : Fn) → l[i]? = some s → (printB (l.take i)).length + (fnB s).length ≤ (printB l).length
  | [], i, s, h => by simp at h
  | a :: r, i, s, h => by
    cases i with
    | zero =>
      simp only [List.getElem?_cons_zero, Option.some.injEq] at h
      subst h
      simp [printB]
    | succ i =>
      have := fnB_le r i s (by simpa using h)
      simp only [printB, List.take_succ_cons, List.map_cons, List.flatten_cons, List.length_append] at this ⊢
      omega
theorem printB_take (l : List Fn) (i : Nat) (s : Fn) (h : l[i]? = some s) : printB (l.take (i + 1)) = printB (l.take i) ++ fnB s := by
  rw [List.take_add_one, h]
  simp [printB]
/-- Where the outer loop stands. -/
def PnAt (W : World) (l : List Fn) (b : Nat) (iv : Value) (wr : World) : Prop :=
  ∃ i : Nat, i ≤ l.length ∧ iv = .int .i64 i ∧ Bld W wr b (printB (l.take i))
set_option maxRecDepth 100000 in
set_option maxHeartbeats 8000000 in
theorem print_any (l : List Fn) (W : World) (x : Value) (vs : List Value) (hP : Prn W) (hn : ∀ s ∈ l, FnOk s) (hrow : RowAt W None 33 4 x l.length vs) (hst : FnsAt W None l vs) (hlen : (printB l).length ≤ 900000000) :
    Calls Tryz.prog 23 #[x] W fun e w => e = .returned (.string ⟨(printB l).toArray⟩) ∧ Mods None W w := by
  have HP := Lib.hid hP
  have HA := Lib.hid (fun (i : Nat) (s : Fn) (hs : l[i]? = some s) => (⟨hn s (List.mem_of_getElem? hs), fnB_le l i s hs, hst.at_ i s hs⟩ : FnOk s ∧ (printB (l.take i)).length + (fnB s).length ≤ (printB l).length ∧ ∃ cs, FnAt W None s cs ∧ ∀ j c, cs[j]? = some c → vs[i * 4 + j]? = some c))
  obtain ⟨n, hln⟩ : ∃ n, n = l.length := ⟨_, rfl⟩
  have hrow' := hrow.1
  rw [← hln] at hrow'
  obtain ⟨xa, xc, rfl⟩ := lex_form hrow'
  have hxa : 0 < n → ∃ q, xa = some ⟨q, 0, none⟩ ∧ n ≤ xc ∧ xc ≤ 9223372036854775807 ∧ ∀ j c, vs[j]? = some c → W.cell? ⟨q, j, none⟩ = some c := by
    intro h0
    rcases hrow'.2 with ⟨hv, hz⟩ | ⟨g2, cap2, cur2, hv, _, _, h3, h4, _⟩
    · omega
    · cases hv
      refine ⟨g2, rfl, h3, by unfold maxLen at h4; omega, fun j c hj => ?_⟩
      have := hrow'.cells (g := g2) rfl j c hj
      cases j with
      | zero => exact this
      | succ j => simpa [Addr.add] using this
  have HXA := Lib.hid hxa
  have HN := Lib.hid hln
  have HB0 := Lib.hid (⟨Lib.IsBuilderF.of (Lib.fresh_isBuilder 114 5 W), (Mods.refl None W).alloc _⟩ : Bld W (W.alloc (.cells #[.pointer none, .slice none 0 0] 114)) W.heap.size [])
  obtain ⟨i0, hi, hz0, hz1, hz2⟩ := info_parts string_info
  have HI := Lib.hid (⟨hi, hz0, hz1, hz2⟩ : _ ∧ _ ∧ _ ∧ _)
  clear hP hn hrow hst hrow' hxa hln hi hz0 hz1 hz2
  go_enter Tryz.func23, Tryz.ntmps23
  go_wp2_with fail
  obtain ⟨b, hb⟩ : ∃ b, b = W.heap.size := ⟨_, rfl⟩
  rw [← hb] at HB0 ⊢
  clear hb
  go_loopw [11] (fun iv wr => PnAt W l b iv wr) (fun iv _ => (n - intOf iv).toNat)
  case atStart => exact ⟨0, Nat.zero_le _, rfl, HB0.out⟩
  case round =>
    clear HB0
    obtain ⟨i, hi, rfl, hbr⟩ := hrel
    have HB := Lib.hid hbr
    clear hbr
    by_cases hlt : i < n
    · obtain ⟨q, rfl, hnc, hxc, hcells⟩ := HXA.out (by omega)
      obtain ⟨s, hs⟩ : ∃ s, l[i]? = some s := ⟨l[i]'(by have := HN.out; omega), List.getElem?_eq_getElem _⟩
      obtain ⟨hok, hle, cs, hst, hvs⟩ := HA.out i s hs
      have HS := Lib.hid hs
      have hii : (i : Int) < (n : Int) := by omega
      obtain ⟨name, at_, ps, body⟩ := s
      obtain ⟨p, q2, vq, rfl, hrp, hrq, hsq⟩ := hst
      obtain ⟨pa, pc, rfl⟩ := lex_form hrp.1
      obtain ⟨qa, qc, rfl⟩ := lex_form hrq.1
      simp only at hok hrp hrq hsq hle
      have hz0 : wr.cell? ⟨q, i * 4, none⟩ = some (.string ⟨name.toArray⟩) := HB.out.mods.cellOf (hcells _ _ (hvs 0 _ rfl)) (fun f => f)
      have hz1 : wr.cell? ⟨q, i * 4 + 1, none⟩ = some (.int .i64 at_) := HB.out.mods.cellOf (hcells _ _ (hvs 1 _ rfl)) (fun f => f)
      have hz2 : wr.cell? ⟨q, i * 4 + 2, none⟩ = some (.slice pa ps.length pc) := HB.out.mods.cellOf (hcells _ _ (hvs 2 _ rfl)) (fun f => f)
      have hz3 : wr.cell? ⟨q, i * 4 + 3, none⟩ = some (.slice qa body.length qc) := HB.out.mods.cellOf (hcells _ _ (hvs 3 _ rfl)) (fun f => f)
      clear hs hvs hcells
      have hxp : 0 < ps.length → ∃ q, pa = some ⟨q, 0, none⟩ ∧ ps.length ≤ pc ∧ pc ≤ 9223372036854775807 ∧ ∀ j c, (pcells ps)[j]? = some c → W.cell? ⟨q, j, none⟩ = some c := by
        intro h0
        rcases hrp.1.2 with ⟨hv, hz⟩ | ⟨g2, cap2, cur2, hv, _, _, h3, h4, _⟩
        · omega
        · cases hv
          refine ⟨g2, rfl, h3, by unfold maxLen at h4; omega, fun j c hj => ?_⟩
          have := hrp.1.cells (g := g2) rfl j c hj
          cases j with
          | zero => exact this
          | succ j => simpa [Addr.add] using this
      have HXP := Lib.hid hxp
      have HOK := Lib.hid hok
      have HLE := Lib.hid hle
      have HRQ := Lib.hid hrq
      have HSQ := Lib.hid hsq
      clear hxp hrp hok hle hrq hsq
      go_wp2_with fail
      have HB1 := Lib.hid (HB.out.quiet ((Mods.refl None wr).alloc (.cells #[.string ⟨name.toArray⟩, .int .i64 at_, .slice pa ps.length pc, .slice qa body.length qc] 33)))
      have HC1 := Lib.hid (Blk.new wr #[.string ⟨name.toArray⟩, .int .i64 at_, .slice pa ps.length pc, .slice qa body.length qc] 33)
      have hbl := bld_lt HB.out
      obtain ⟨k5, hk5⟩ : ∃ k, k = wr.heap.size := ⟨_, rfl⟩
      have hkb : Hid (k5 ≠ b) := Lib.hid (by omega)
      obtain ⟨W1, hW1⟩ : ∃ q, q = wr.alloc (.cells #[.string ⟨name.toArray⟩, .int .i64 at_, .slice pa ps.length pc, .slice qa body.length qc] 33) := ⟨_, rfl⟩
      rw [← hW1] at HB1 HC1 ⊢
      rw [← hk5] at HC1 ⊢
      clear hW1 hk5 hbl HB hz0 hz1 hz2 hz3
      obtain ⟨L, hL⟩ : ∃ L, L = ps.map paramB := ⟨_, rfl⟩
      have HLN := Lib.hid (show L.length = ps.length by rw [hL, List.length_map])
      have HLE2 := HLE.out
      simp only [fnB, List.length_append, List.length_cons, List.length_nil] at HLE2
      rw [← hL] at HLE2
      have HJ := Lib.hid (join_many [44, 32] (by decide) L)
      have HJL := Lib.hid (show (Lib.join L [44, 32]).length ≤ 900000000 by omega)
      have HLA := Lib.hid (fun (j : Nat) (p : List UInt8 × Int) (hp : ps[j]? = some p) => by
        have h1 : L[j]? = some (paramB p) := by rw [hL, List.getElem?_map, hp]; rfl
        exact (⟨h1, join_ge [44, 32] L j _ h1⟩ : L[j]? = some (paramB p) ∧ (paramB p).length ≤ (Lib.join L [44, 32]).length))
      have HFB := Lib.hid HLE2
      have HLP := Lib.hid hL
      clear HLE HLE2 hL
      go_loopw [6, 18] (fun lv jv wr => TxAt W1 L lv jv wr) (fun _ jv _ => (ps.length - intOf jv).toNat)
      case atStart => exact ⟨0, Nat.zero_le _, rfl, World.ownsRow_nil _ _ _ _, Mods.refl _ _⟩
      case round =>
        obtain ⟨j, hj, rfl, hown, hm⟩ := hrel
        have HO := Lib.hid hown
        have HM := Lib.hid hm
        clear hown hm
        have hLl := HLN.out
        by_cases hjl : j < ps.length
        · obtain ⟨qp, rfl, hpc1, hpc2, hpcs⟩ := HXP.out (by omega)
          obtain ⟨pr, hpr⟩ : ∃ pr, ps[j]? = some pr := ⟨ps[j], List.getElem?_eq_getElem hjl⟩
          obtain ⟨hLj, hLl2⟩ := HLA.out j pr hpr
          have hty := HOK.out.1 pr (List.mem_of_getElem? hpr)
          have hpz := pcells_at ps j pr hpr
          obtain ⟨pn, pt⟩ := pr
          simp only at hpz hty
          have hp0 : wr.cell? ⟨qp, j * 2, none⟩ = some (.string ⟨pn.toArray⟩) := HM.out.cellOf (HB1.out.mods.cellOf (hpcs _ _ hpz.1) (fun f => f)) (fun f => f)
          have hp1 : wr.cell? ⟨qp, j * 2 + 1, none⟩ = some (.int .i64 pt) := HM.out.cellOf (HB1.out.mods.cellOf (hpcs _ _ hpz.2) (fun f => f)) (fun f => f)
          have hji : (j : Int) < (ps.length : Int) := by omega
          have hjb : j ≤ 1000000000 := by have := HJ.out; have := HJL.out; omega
          have hnl : pn.length ≤ 900000000 := by have := HJL.out; unfold paramB at hLl2; simp only [List.length_append] at hLl2; omega
          have HLj := Lib.hid hLj
          obtain ⟨oa, oc, rfl⟩ := lex_form HO.out
          clear hLj hLl2 hpz hpcs hpr hLl
          rcases hty with rfl | rfl
          · have hix := fun (W9 : World) => ty_1 W9
            have hq1 : ¬ 9223372036854775807 < pn.length + 2 := by omega
            have hq2 : ¬ 9223372036854775807 < pn.length + 2 + 3 := by omega
            go_wp2_with fail
            have HO4 := Lib.hid ((HO.out.alloc (.cells #[.string ⟨pn.toArray⟩, .int .i64 1] 85)).alloc (.cells #[.string ((⟨pn.toArray⟩ : ByteArray) ++ ⟨#[58, 32]⟩ ++ ⟨#[105, 110, 116]⟩)] 9))
            have hsz4 : Hid (W1.heap.size ≤ ((wr.alloc (.cells #[.string ⟨pn.toArray⟩, .int .i64 1] 85)).alloc (.cells #[.string ((⟨pn.toArray⟩ : ByteArray) ++ ⟨#[58, 32]⟩ ++ ⟨#[105, 110, 116]⟩)] 9)).heap.size) := Lib.hid (by have := HM.out.size; simp; omega)
            go_region_law (refine step_append_at rfl (.tmp 22) (.tmp 31) 37 rfl W1.heap.size 9 i0 _ 1 16 Tryz.underlying37 HI.out.1 HI.out.2.1 HI.out.2.2.1 HI.out.2.2.2 rfl (by decide) (.slice oa j oc) j ((L.take j).map str) (by simp [Act.eval, Act.put]) HO4.out ⟨(wr.alloc (.cells #[.string ⟨pn.toArray⟩, .int .i64 1] 85)).heap.size, 0, none⟩ 1 1 [.string ((⟨pn.toArray⟩ : ByteArray) ++ ⟨#[58, 32]⟩ ++ ⟨#[105, 110, 116]⟩)] (by simp [Act.eval, Act.put]) rfl (one_new (wr.alloc (.cells #[.string ⟨pn.toArray⟩, .int .i64 1] 85)) _ _) (str_one _) (by unfold maxLen; omega) (by omega) hsz4.out ?_; intro v' w5 hown hgrow hloc)
            all_goals
              obtain ⟨ra, rc, rfl⟩ := lex_form hown
              have HOW := Lib.hid hown
              have hm5 : Mods None W1 w5 := ((HM.out.alloc (.cells #[.string ⟨pn.toArray⟩, .int .i64 1] 85)).alloc (.cells #[.string ((⟨pn.toArray⟩ : ByteArray) ++ ⟨#[58, 32]⟩ ++ ⟨#[105, 110, 116]⟩)] 9)).drew.trans' (Mods.of_grownBy hgrow (S := fun k => (Value.slice oa j oc).ownBlock = some k) (fun k hk _ => hk)) (fun k hk hw => by have := (HO.out.lt k hk).1; omega)
              have HM5 := Lib.hid hm5
              clear hown hgrow hloc hm5 hix hq1 hq2 hp0 hp1
              go_wp2_with fail
              refine ⟨⟨j + 1, by have := HLN.out; omega, by go_num, ?_, HM5.out⟩, by simp [intOf]; omega⟩
              have htk : (L.take (j + 1)).map str = (L.take j).map str ++ [.string ((⟨pn.toArray⟩ : ByteArray) ++ ⟨#[58, 32]⟩ ++ ⟨#[105, 110, 116]⟩)] := by
                rw [List.take_add_one, HLj.out, Option.toList_some, List.map_append]
                simp [str, paramB, tyB, ba_append]
              rw [htk]
              exact HOW.out
          · have hix := fun (W9 : World) => ty_2 W9
            have hq1 : ¬ 9223372036854775807 < pn.length + 2 := by omega
            have hq2 : ¬ 9223372036854775807 < pn.length + 2 + 3 := by omega
            go_wp2_with fail
            have HO4 := Lib.hid ((HO.out.alloc (.cells #[.string ⟨pn.toArray⟩, .int .i64 2] 85)).alloc (.cells #[.string ((⟨pn.toArray⟩ : ByteArray) ++ ⟨#[58, 32]⟩ ++ ⟨#[97, 114, 114]⟩)] 9))
            have hsz4 : Hid (W1.heap.size ≤ ((wr.alloc (.cells #[.string ⟨pn.toArray⟩, .int .i64 2] 85)).alloc (.cells #[.string ((⟨pn.toArray⟩ : ByteArray) ++ ⟨#[58, 32]⟩ ++ ⟨#[97, 114, 114]⟩)] 9)).heap.size) := Lib.hid (by have := HM.out.size; simp; omega)
            go_region_law (refine step_append_at rfl (.tmp 22) (.tmp 31) 37 rfl W1.heap.size 9 i0 _ 1 16 Tryz.underlying37 HI.out.1 HI.out.2.1 HI.out.2.2.1 HI.out.2.2.2 rfl (by decide) (.slice oa j oc) j ((L.take j).map str) (by simp [Act.eval, Act.put]) HO4.out ⟨(wr.alloc (.cells #[.string ⟨pn.toArray⟩, .int .i64 2] 85)).heap.size, 0, none⟩ 1 1 [.string ((⟨pn.toArray⟩ : ByteArray) ++ ⟨#[58, 32]⟩ ++ ⟨#[97, 114, 114]⟩)] (by simp [Act.eval, Act.put]) rfl (one_new (wr.alloc (.cells #[.string ⟨pn.toArray⟩, .int .i64 2] 85)) _ _) (str_one _) (by unfold maxLen; omega) (by omega) hsz4.out ?_; intro v' w5 hown hgrow hloc)
            all_goals
              obtain ⟨ra, rc, rfl⟩ := lex_form hown
              have HOW := Lib.hid hown
              have hm5 : Mods None W1 w5 := ((HM.out.alloc (.cells #[.string ⟨pn.toArray⟩, .int .i64 2] 85)).alloc (.cells #[.string ((⟨pn.toArray⟩ : ByteArray) ++ ⟨#[58, 32]⟩ ++ ⟨#[97, 114, 114]⟩)] 9)).drew.trans' (Mods.of_grownBy hgrow (S := fun k => (Value.slice oa j oc).ownBlock = some k) (fun k hk _ => hk)) (fun k hk hw => by have := (HO.out.lt k hk).1; omega)
              have HM5 := Lib.hid hm5
              clear hown hgrow hloc hm5 hix hq1 hq2 hp0 hp1
              go_wp2_with fail
              refine ⟨⟨j + 1, by have := HLN.out; omega, by go_num, ?_, HM5.out⟩, by simp [intOf]; omega⟩
              have htk : (L.take (j + 1)).map str = (L.take j).map str ++ [.string ((⟨pn.toArray⟩ : ByteArray) ++ ⟨#[58, 32]⟩ ++ ⟨#[97, 114, 114]⟩)] := by
                rw [List.take_add_one, HLj.out, Option.toList_some, List.map_append]
                simp [str, paramB, tyB, ba_append]
              rw [htk]
              exact HOW.out
        · obtain rfl : j = L.length := by omega
          have hji : ¬ (L.length : Int) < (ps.length : Int) := by omega
          have HO5 := Lib.hid (show wr.ownsRow W1.heap.size 9 1 _ L.length (L.map str) from by have := HO.out; rwa [List.take_length] at this)
          obtain ⟨J, hJ⟩ : ∃ J, J = Lib.join L [44, 32] := ⟨_, rfl⟩
          have HJN := Lib.hid (fun (w : World) (hm : Mods None wr w) => join_any L _ HO5.out (by have := HJ.out; have := HJL.out; omega) (by have := HJL.out; omega) w hm)
          have HJE := Lib.hid hJ
          have hfb := HFB.out
          rw [← hJ] at HJN hfb
          have HB2 := Lib.hid (HB1.out.quiet HM.out)
          have HC2 := Lib.hid (HC1.out.mods HM.out (fun f => f))
          have c0 := HC2.out.cell (i := 0) rfl
          obtain ⟨oa, oc, rfl⟩ := lex_form HO5.out
          have hq0 : ¬ 9223372036854775807 < 3 + name.length := by omega
          have hq1 : ¬ 9223372036854775807 < 3 + name.length + 1 := by omega
          have hq2 : ¬ 9223372036854775807 < 3 + name.length + 1 + J.length := by omega
          have hq3 : ¬ 9223372036854775807 < 3 + name.length + 1 + J.length + 4 := by omega
          clear hJ hLl HB1 HC1 HO
          go_wp2_with fail
          go_region_held3 (fun w' => Hid (Blk w' k5 [.string ⟨name.toArray⟩, .int .i64 at_, .slice pa ps.length pc, .slice qa body.length qc] 33) ∧ w'.cell? ⟨k5, 0, none⟩ = some (.string ⟨name.toArray⟩))
            (first
              | exact ⟨Lib.hid HC2.out.drew, c0⟩
              | assumption
              | (go_split_ands; exact ⟨Lib.hid (Blk.mods hm2 (Hid.out ‹Hid (Blk _ k5 _ _)›) (fun f => f)), hm2.cellOf ‹_› (fun f => f)⟩)
              | (go_split_ands; exact ⟨Lib.hid (blk_kept hk3 (Hid.out ‹Hid (Blk _ k5 _ _)›) hkb.out (by decide)), (blk_kept hk3 (Hid.out ‹Hid (Blk _ k5 _ _)›) hkb.out (by decide)).cell (i := 0) rfl⟩))
            ((first
              | (go_at_call 53; go_split_ands; refine (write_of ((HB2.out.quiet (Mods.refl None wr).drew).quiet hm2) _ ([102, 110, 32] ++ name ++ [40] ++ J ++ [41, 32, 123, 10]) (by first | rfl | simp [ba_append]) (by simp only [List.length_append, List.length_cons, List.length_nil]; omega)).mono ?_; rintro e w3 ⟨rfl, hb3, hk3⟩)
              | (go_at_call 54; go_split_ands; refine (HJN.out wr.drew (Mods.refl None wr).drew).mono ?_; rintro e w2 ⟨rfl, hm2⟩)))
          all_goals
            go_split_ands
            have HB3 := Lib.hid hb3
            have HC3 := Lib.hid (blk_kept hk3 ((HC2.out.drew).mods hm2 (fun f => f)) hkb.out (by decide))
            have c3 := HC3.out.cell (i := 3) rfl
            clear hb3 hk3 hm2
            go_wp2_with fail
            go_at_call 55
            refine (stsc_of (sts_any body) HB3.out HP.out HOK.out.2 HRQ.out HSQ.out _ sp ?_ ?_).mono ?_
            · rfl
            · have hsp2 : sp.length = 2 := rfl
              simp only [List.length_append, List.length_cons, List.length_nil]
              omega
            rintro e w4 ⟨rfl, hb4, hk4⟩
            have HB4 := Lib.hid hb4
            clear hb4 hk4 HB3 HC3 c3
            go_wp2_with fail
            go_at_call 53
            refine (write_of HB4.out _ [125, 10] ?_ ?_).mono ?_
            · rfl
            · simp only [List.length_append, List.length_cons, List.length_nil]
              omega
            rintro e w5 ⟨rfl, hb5, hk5⟩
            have HB5 := Lib.hid hb5
            clear hb5 hk5 HB4
            go_wp2_with fail
            refine ⟨⟨i + 1, by have := HN.out; omega, by go_num, ?_⟩, by simp [intOf]; omega⟩
            have h9 := HB5.out
            rw [printB_take l i _ HS.out]
            have hpj : Lib.join (ps.map paramB) [44, 32] = J := by rw [HJE.out, HLP.out]
            simpa [fnB, hpj, List.append_assoc] using h9
    · obtain rfl : i = l.length := by have := HN.out; omega
      have hii : ¬ (l.length : Int) < (n : Int) := by omega
      have HC := Lib.hid (Tryz.Builder_String_any_k W.heap.size b (printB l) wr (by have := HB.out.blt; rwa [List.take_length] at this) HB.out.mods.size)
      go_wp2_with fail
      go_at_call 56
      refine HC.out.mono ?_
      rintro e w ⟨rfl, h1, h2, h3⟩
      have hm : Mods None W w := ⟨h2.os.trans HB.out.mods.os, h2.output.trans HB.out.mods.output, Nat.le_trans HB.out.mods.size h2.size, fun k hk hn => (h2.block k hk).trans (HB.out.mods.block k hk hn)⟩
      clear h1 h2 h3
      go_wp2
      go_ret
      exact ⟨rfl, hm⟩
end Go.Proofs.YtdgedlhefjmcpaaGreatDoor.TreeP

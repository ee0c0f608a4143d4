/- What the texts of instructions read of the package's variables; op's parts; numbers and registers read. Conditions: the variables lie as the program lays them. -/
import Derived.Test.YtodgkbcgdbhpeaaGreatDoorAsmL
import Derived.Test.YtodgkbcgdbhpeaaGreatDoorShelf
import Derived.Test.YtodgkbcgdbhpeaaGreatDoorMods
import Derived.WalkSpells
import Derived.WalkLawsBesides
import Derived.RegionTactic
import Derived.Outline
import Derived.IntWalk
import Derived.Lib.OthersKept
import Derived.Lib.Hide
import Derived.Shelf.Strings.SlTrimAscii
namespace Go.Proofs.YtodgkbcgdbhpeaaGreatDoor.AsmP
open Go.RowKit Go.Proofs.YtodgkbcgdbhpeaaGreatDoor.WordP Go.Proofs.YtodgkbcgdbhpeaaGreatDoor.Wo
set_option linter.unusedVariables false
set_option linter.unusedSimpArgs false
def str (s : List UInt8) : Value := .string ⟨s.toArray⟩
/-- Blocks behind the package's variables. -/
def Far (S : Nat → Prop) : Prop := ∀ k, S k → 12 ≤ k
theorem far_none : Far None := fun _ h => h.elim
theorem iter_mods {S : Nat → Prop} {a w : World} (h : Mods S a w) {g : Nat} (hg : a.heap.size ≤ g) (s : ByteArray) (p : Nat) : Mods S a (w.iterAt g s p) :=
  ⟨h.os, h.output, by rw [Lib.iterAt_size]; exact h.size, fun i hi hn => (Lib.iterAt_other w g i s p (by omega)).trans (h.block i hi hn)⟩
theorem iter_blk {w : World} {b : Nat} {cs : List Value} {t : TypeId} (h : Blk w b cs t) {g : Nat} (hg : b ≠ g) (s : ByteArray) (p : Nat) : Blk (w.iterAt g s p) b cs t := (Lib.iterAt_other w g b s p hg).trans h
theorem iter_set {w : World} {g : Nat} {s : ByteArray} {p : Nat} (h : w.heap[g]? = some (.stringIter s p)) {a : Addr} (ha : g ≠ a.block) (v : Value) : (w.setCell a v).heap[g]? = some (.stringIter s p) := (heap_setCell_other w a g v ha).trans h
theorem iter_mod {S : Nat → Prop} {a w : World} (h : Mods S a w) {g : Nat} {s : ByteArray} {p : Nat} (hi : a.heap[g]? = some (.stringIter s p)) (hg : ¬ S g) : w.heap[g]? = some (.stringIter s p) := h.blockOf hi hg
def PowTab (W : World) : Prop := Lib.TabIs Tryz.prog W "internal/strconv.uint64pow10" .u64 Lib.pow10Tab
def ErrAt (W : World) (g : Nat) : Prop := ∃ ev, W.cell? ⟨g, 0, none⟩ = some ev ∧ (ev = .nilIface ∨ ∃ te pe, ev = .iface te pe)
def MaxAt (W : World) : Prop := ∃ m : Int, W.cell? ⟨4, 0, none⟩ = some (.int .i64 m)
/-- The names of ops lie. -/
def NamesAt (W : World) : Prop := ∀ (i : Nat) (n : List UInt8), nameList[i]? = some n → W.cell? ⟨1, i, none⟩ = some (str n)
structure Base (W : World) : Prop where
  pow : PowTab W
  syn : ErrAt W 10
  rng : ErrAt W 11
  max : MaxAt W
  forms : Forms W
  names : NamesAt W
  room : 12 ≤ W.heap.size
theorem pow_global : Tryz.prog.globalNamed "internal/strconv.uint64pow10" = some 3 := by kernel_rfl
theorem PowTab.next {S : Nat → Prop} {W W' : World} (h : PowTab W) (hm : Mods S W W') (hS : Far S) : PowTab W' := by
  unfold PowTab Lib.TabIs World.var? at *
  rw [pow_global] at h ⊢
  simp only [Option.bind_some] at h ⊢
  cases hb : W.heap[3]? with
  | none => rw [hb] at h; simp at h
  | some o =>
    rw [hm.blockOf hb (fun f => by have := hS _ f; omega)]
    rw [hb] at h
    exact h
theorem ErrAt.next {S : Nat → Prop} {W W' : World} {g : Nat} (h : ErrAt W g) (hm : Mods S W W') (hg : ¬ S g) : ErrAt W' g := by
  obtain ⟨ev, h1, h2⟩ := h
  exact ⟨ev, hm.cellOf h1 hg, h2⟩
theorem Base.next {S : Nat → Prop} {W W' : World} (h : Base W) (hm : Mods S W W') (hS : Far S) : Base W' := by
  refine ⟨h.pow.next hm hS, h.syn.next hm (fun f => by have := hS _ f; omega), h.rng.next hm (fun f => by have := hS _ f; omega), ?_, fun op h1 h2 => ?_, fun i n hi => hm.cellOf (h.names i n hi) (fun f => by have := hS _ f; simp only at this; omega), Nat.le_trans h.room hm.size⟩
  · obtain ⟨m, hm1⟩ := h.max
    exact ⟨m, hm.cellOf hm1 (fun f => by have := hS _ f; simp only at this; omega)⟩
  · obtain ⟨c0, c1, c2, c3⟩ := h.forms op h1 h2
    have hn : ¬ S 2 := fun f => by have := hS _ f; omega
    exact ⟨hm.cellOf c0 hn, hm.cellOf c1 hn, hm.cellOf c2 hn, hm.cellOf c3 hn⟩
theorem grow_mods {w w' : World} {os : Array Obj} (h1 : w'.os = w.os) (h2 : w'.output = w.output) (h3 : w'.heap = w.heap ++ os) : Mods None w w' := by
  refine ⟨h1, h2, ?_, fun i hi _ => ?_⟩
  · simp [h3]
  · simp [h3, Array.getElem?_append, hi]
theorem bytes_mods {w w' : World} {e : TypeId} (h : w' = w ∨ ∃ t, w' = Lib.bytesWorld w e t) : Mods None w w' := by
  rcases h with rfl | ⟨t, rfl⟩
  · exact Mods.refl _ _
  · exact Mods.of_below (Lib.bytesWorld_below w e t)
/-- Numbers written. -/
theorem format_any (n : Int) (h1 : -9223372036854775808 ≤ n) (h2 : n ≤ 9223372036854775807) (W : World) (hB : PowTab W) :
    Calls Tryz.prog 25 #[.int .i64 n, .int .i64 10] W fun e w => e = .returned (str (Lib.itoa n)) ∧ Mods None W w := by
  refine (Tryz.strconv_FormatInt_10 n h1 h2 W hB).mono ?_
  rintro e w ⟨rfl, k, os, rfl⟩
  exact ⟨rfl, grow_mods rfl rfl rfl⟩
theorem itoa_any (n : Int) (h1 : -9223372036854775808 ≤ n) (h2 : n ≤ 9223372036854775807) (W : World) (hB : PowTab W) :
    Calls Tryz.prog 24 #[.int .i64 n] W fun e w => e = .returned (str (Lib.itoa n)) ∧ Mods None W w := by
  refine (Tryz.strconv_Itoa n h1 h2 W hB).mono ?_
  rintro e w ⟨rfl, k, os, rfl⟩
  exact ⟨rfl, grow_mods rfl rfl rfl⟩
/-- Numbers read: a number, and whether there was an error. -/
theorem parse_any (s : List UInt8) (hs : s.length ≤ 1000000) (W : World) (hB : Base W) :
    Calls Tryz.prog 99 #[str s, .int .i64 10, .int .i64 64] W fun e w => (∃ v ev, e = .returned (.tuple #[.int .i64 v, ev]) ∧ (-9223372036854775808 ≤ v ∧ v ≤ 9223372036854775807) ∧
      ((Lib.parseIntB 64 s = .ok v ∧ ev = .nilIface) ∨ ((∀ n, Lib.parseIntB 64 s ≠ .ok n) ∧ (BadN (Lib.parseIntB 64 s) → v = 0) ∧ ∃ te pe, ev = .iface te pe))) ∧ Mods None W w := by
  obtain ⟨se, hs1, hs2⟩ := hB.syn
  obtain ⟨re, hr1, hr2⟩ := hB.rng
  have hsz : (⟨s.toArray⟩ : ByteArray).size = s.length := by simp [ByteArray.size]
  cases hp : Lib.parseIntB 64 s with
  | ok v =>
    refine (Tryz.strconv_ParseInt_10_at64_ok ⟨s.toArray⟩ (by rw [hsz]; omega) v (by simpa using hp) W).mono ?_
    rintro e w ⟨rfl, hw⟩
    have hb := Lib.parseIntB_bounds hp
    exact ⟨⟨v, _, rfl, by omega, Or.inl ⟨rfl, rfl⟩⟩, bytes_mods hw⟩
  | range =>
    refine (Tryz.strconv_ParseInt_10_at64_range ⟨s.toArray⟩ (by rw [hsz]; omega) (by simpa using hp) re W hr1 hr2).mono ?_
    rintro e w ⟨N, rfl, -, -, hb⟩
    have hsat := Lib.atoiSat_bounds s
    rw [← Lib.intSat_64] at hsat
    exact ⟨⟨Lib.intSat 64 s, _, rfl, by omega, Or.inr ⟨fun n h => (by cases h), fun h => absurd rfl h.2, _, _, rfl⟩⟩, Mods.of_below hb⟩
  | _ =>
    refine (Tryz.strconv_ParseInt_10_at64_syntax ⟨s.toArray⟩ (by rw [hsz]; omega) ⟨fun n h => by simp [hp] at h, fun h => by simp [hp] at h⟩ se W hs1 hs2).mono ?_
    rintro e w ⟨N, rfl, -, -, hb⟩
    exact ⟨⟨0, _, rfl, by omega, Or.inr ⟨fun n h => (by cases h), fun _ => rfl, _, _, rfl⟩⟩, Mods.of_below hb⟩
theorem atoi_any (s : List UInt8) (hs : s.length ≤ 1000000) (W : World) (hB : Base W) :
    Calls Tryz.prog 111 #[str s] W fun e w => (∃ v ev, e = .returned (.tuple #[.int .i64 v, ev]) ∧ (-9223372036854775808 ≤ v ∧ v ≤ 9223372036854775807) ∧
      ((Lib.atoiAll s = .ok v ∧ ev = .nilIface) ∨ ((∀ n, Lib.atoiAll s ≠ .ok n) ∧ ∃ te pe, ev = .iface te pe))) ∧ Mods None W w := by
  obtain ⟨se, hs1, hs2⟩ := hB.syn
  obtain ⟨re, hr1, hr2⟩ := hB.rng
  have hsz : (⟨s.toArray⟩ : ByteArray).size = s.length := by simp [ByteArray.size]
  cases hp : Lib.atoiAll s with
  | ok v =>
    refine (Tryz.strconv_Atoi_ok ⟨s.toArray⟩ (by rw [hsz]; omega) v (by simpa using hp) W).mono ?_
    rintro e w ⟨rfl, hw⟩
    have hb := Lib.atoiAll_bounds hp
    exact ⟨⟨v, _, rfl, by omega, Or.inl ⟨rfl, rfl⟩⟩, bytes_mods hw⟩
  | range =>
    refine (Tryz.strconv_Atoi_range ⟨s.toArray⟩ (by rw [hsz]; omega) (by simpa using hp) re W hr1 hr2).mono ?_
    rintro e w ⟨N, rfl, -, -, hb⟩
    have hsat := Lib.atoiSat_bounds s
    exact ⟨⟨Lib.atoiSat s, _, rfl, hsat, Or.inr ⟨fun n h => (by cases h), _, _, rfl⟩⟩, Mods.of_below hb⟩
  | _ =>
    refine (Tryz.strconv_Atoi_syntax ⟨s.toArray⟩ (by rw [hsz]; omega) ⟨fun n h => by simp [hp] at h, fun h => by simp [hp] at h⟩ se W hs1 hs2).mono ?_
    rintro e w ⟨N, rfl, -, -, hb⟩
    exact ⟨⟨0, _, rfl, by omega, Or.inr ⟨fun n h => (by cases h), _, _, rfl⟩⟩, Mods.of_below hb⟩
set_option maxRecDepth 100000 in
set_option maxHeartbeats 1000000 in
theorem parts_any (op : Int) (W : World) : Calls Tryz.prog 26 #[.int .i64 op] W fun e w => e = .returned (str (partsOf op)) ∧ w = W := by
  unfold partsOf str
  by_cases h1 : op ≤ 13
  · rw [if_pos h1]
    go_enter Tryz.func26, Tryz.ntmps26
    go_wp2_with fail
    go_ret
    exact ⟨rfl, rfl⟩
  rw [if_neg h1]
  by_cases h2 : op ≤ 21
  · rw [if_pos h2]
    go_enter Tryz.func26, Tryz.ntmps26
    go_wp2_with fail
    go_ret
    exact ⟨rfl, rfl⟩
  rw [if_neg h2]
  have e22 : (op == 22) = decide (op = 22) := rfl
  by_cases h3 : op = 22 ∨ op = 23
  · rw [if_pos h3]
    rcases h3 with rfl | rfl
    all_goals
      go_enter Tryz.func26, Tryz.ntmps26
      go_wp2_with fail
      go_ret
      exact ⟨rfl, rfl⟩
  rw [if_neg h3]
  have n22 : (op == 22) = false := by rw [beq_eq_false_iff_ne]; omega
  have n23 : (op == 23) = false := by rw [beq_eq_false_iff_ne]; omega
  clear e22
  by_cases h4 : op = 24
  · subst h4
    rw [if_pos rfl]
    go_enter Tryz.func26, Tryz.ntmps26
    go_wp2_with fail
    go_ret
    exact ⟨rfl, rfl⟩
  rw [if_neg h4]
  have n24 : (op == 24) = false := by rw [beq_eq_false_iff_ne]; omega
  by_cases h5 : op ≤ 28
  · rw [if_pos h5]
    go_enter Tryz.func26, Tryz.ntmps26
    go_wp2_with fail
    go_ret
    exact ⟨rfl, rfl⟩
  rw [if_neg h5]
  by_cases h6 : op = 29
  · subst h6
    rw [if_pos rfl]
    go_enter Tryz.func26, Tryz.ntmps26
    go_wp2_with fail
    go_ret
    exact ⟨rfl, rfl⟩
  rw [if_neg h6]
  have n29 : (op == 29) = false := by rw [beq_eq_false_iff_ne]; omega
  by_cases h7 : op = 30
  · subst h7
    rw [if_pos rfl]
    go_enter Tryz.func26, Tryz.ntmps26
    go_wp2_with fail
    go_ret
    exact ⟨rfl, rfl⟩
  rw [if_neg h7]
  have n30 : (op == 30) = false := by rw [beq_eq_false_iff_ne]; omega
  go_enter Tryz.func26, Tryz.ntmps26
  go_wp2_with fail
  go_ret
  exact ⟨rfl, rfl⟩
theorem is_nil (ev : Value) (te : TypeId) (pe : Value) (h : ev = .iface te pe) (w : World) (t : TypeId) : True := trivial
/-- A number as it is written, and whether it is one. -/
def NumP (s : List UInt8) (W : World) (e : Ending) (w : World) : Prop := (∃ v b, e = .returned (.tuple #[.int .i64 v, .bool b]) ∧ (-9223372036854775808 ≤ v ∧ v ≤ 9223372036854775807) ∧ ((b = true ∧ numR s = some v) ∨ (b = false ∧ numR s = none ∧ (BadN (Lib.parseIntB 64 s) → v = 0)))) ∧ Mods None W w
set_option maxRecDepth 100000 in
set_option maxHeartbeats 1000000 in
theorem number_any (s : List UInt8) (hs : s.length ≤ 1000000) (W : World) (hB : Base W) : Calls Tryz.prog 89 #[str s] W (NumP s W) := by
  have HP := Lib.hid (parse_any s hs W hB)
  have HB := Lib.hid hB
  clear hB
  go_enter Tryz.func89, Tryz.ntmps89
  go_wp2_with fail
  refine HP.out.mono ?_
  rintro e w1 ⟨⟨v, ev, rfl, hv, h⟩, hm1⟩
  have HM1 := Lib.hid hm1
  have HF := Lib.hid (fun (w : World) (hm : Mods None W w) => format_any v hv.1 hv.2 w (HB.out.next hm far_none).pow)
  have HV := Lib.hid hv
  clear hm1 hv HP
  rcases h with ⟨h1, rfl⟩ | ⟨h1, h2, te, pe, rfl⟩
  · go_wp2_with fail
    refine (HF.out w1 HM1.out).mono ?_
    rintro e w2 ⟨rfl, hm2⟩
    have HM2 := Lib.hid (HM1.out.trans hm2)
    clear hm2
    unfold str
    go_wp2_with fail
    go_ret2
    refine ⟨⟨v, Lib.itoa v == s, rfl, HV.out, ?_⟩, HM2.out⟩
    unfold numR
    rw [h1]
    by_cases hq : Lib.itoa v = s
    · exact Or.inl ⟨by simpa using hq, by simp only [if_pos hq]⟩
    · exact Or.inr ⟨by simpa using hq, by simp only [if_neg hq], fun h => absurd rfl (h.1 _)⟩
  · go_wp2_with fail
    go_ret2
    refine ⟨⟨v, false, rfl, HV.out, Or.inr ⟨rfl, ?_, h2⟩⟩, HM1.out⟩
    unfold numR
    cases hp : Lib.parseIntB 64 s with
    | ok n => exact absurd hp (h1 n)
    | range => rfl
    | _ => rfl
/-- A register's number, and whether it is one. -/
def RegP (s : List UInt8) (W : World) (e : Ending) (w : World) : Prop := (∃ v b, e = .returned (.tuple #[.int .i64 v, .bool b]) ∧ (-9223372036854775808 ≤ v ∧ v ≤ 9223372036854775807) ∧ ((b = true ∧ regR s = some v) ∨ (b = false ∧ regR s = none))) ∧ Mods None W w
theorem prefix_x (s : List UInt8) : (Lib.hasPrefix s [120] = true ∧ ∃ t, s = 120 :: t ∧ Lib.trimPrefix s [120] = t) ∨ (Lib.hasPrefix s [120] = false ∧ Lib.trimPrefix s [120] = s ∧ regR s = none) := by
  cases s with
  | nil => exact Or.inr ⟨rfl, rfl, rfl⟩
  | cons c t =>
    by_cases h : c = 120
    · subst h
      exact Or.inl ⟨by simp [Lib.hasPrefix], t, rfl, by simp [Lib.trimPrefix, Lib.hasPrefix]⟩
    · have hb : Lib.hasPrefix (c :: t) [120] = false := by
        simp only [Lib.hasPrefix, List.isPrefixOf, Bool.and_true, beq_eq_false_iff_ne]
        exact fun e => h e.symm
      exact Or.inr ⟨hb, by simp [Lib.trimPrefix, hb], by simp [regR, h]⟩
set_option maxRecDepth 100000 in
set_option maxHeartbeats 1000000 in
theorem register_read (s : List UInt8) (hs : s.length ≤ 1000000) (W : World) (hB : Base W) : Calls Tryz.prog 87 #[str s] W (RegP s W) := by
  obtain ⟨t, ht⟩ : ∃ t, t = Lib.trimPrefix s [120] := ⟨_, rfl⟩
  obtain ⟨b, hb⟩ : ∃ b, b = Lib.hasPrefix s [120] := ⟨_, rfl⟩
  have htl : t.length ≤ 1000000 := by
    rw [ht]
    unfold Lib.trimPrefix
    split
    · simp; omega
    · exact hs
  have HC : Hid (Calls Tryz.prog 110 #[str s, .string ⟨#[120]⟩] W fun e w' => e = .returned (.tuple #[str t, .bool b]) ∧ w' = W) := Lib.hid (by
    have h := Tryz.strings_CutPrefix ⟨s.toArray⟩ ⟨#[120]⟩ W
    rw [ht, hb]
    exact h)
  have HA := Lib.hid (atoi_any t htl W hB)
  have HB := Lib.hid hB
  have HT := Lib.hid (And.intro ht hb)
  clear hB ht hb htl
  go_enter Tryz.func87, Tryz.ntmps87
  unfold str at HC ⊢
  go_wp2_with fail
  refine HC.out.mono ?_
  rintro e w1 ⟨rfl, rfl⟩
  go_wp2_with fail
  refine HA.out.mono ?_
  rintro e w2 ⟨⟨v, ev, rfl, hv, h⟩, hm2⟩
  have HM2 := Lib.hid hm2
  have HV := Lib.hid hv
  have HF := Lib.hid (itoa_any v hv.1 hv.2 w2 (HB.out.next hm2 far_none).pow)
  clear hm2 hv HA HC
  unfold str at HF
  cases b with
  | false =>
    go_wp2_with fail
    go_ret2
    refine ⟨⟨v, false, rfl, HV.out, Or.inr ⟨rfl, ?_⟩⟩, HM2.out⟩
    rcases prefix_x s with ⟨h1, -⟩ | ⟨-, -, h3⟩
    · rw [← HT.out.2] at h1; cases h1
    · exact h3
  | true =>
    have hst : s = 120 :: t := by
      rcases prefix_x s with ⟨-, t', h1, h2⟩ | ⟨h1, -⟩
      · rw [HT.out.1, h2]; exact h1
      · rw [← HT.out.2] at h1; cases h1
    have hreg : regR s = (match Lib.atoiAll t with | .ok n => if 0 ≤ n ∧ n < 32 ∧ Lib.itoa n = t then some n else none | _ => none) := by rw [hst]; rfl
    have HST := Lib.hid hreg
    clear hst hreg
    rcases h with ⟨h1, rfl⟩ | ⟨h1, te, pe, rfl⟩
    · by_cases h0 : 0 ≤ v
      · by_cases h32 : v < 32
        · go_wp2_with fail
          refine HF.out.mono ?_
          rintro e w3 ⟨rfl, hm3⟩
          have HM3 := Lib.hid (HM2.out.trans hm3)
          clear hm3
          go_wp2_with fail
          go_ret2
          refine ⟨⟨v, Lib.itoa v == t, rfl, HV.out, ?_⟩, HM3.out⟩
          rw [HST.out, h1]
          by_cases hq : Lib.itoa v = t
          · exact Or.inl ⟨by simpa using hq, by simp only [if_pos (And.intro h0 (And.intro h32 hq))]⟩
          · exact Or.inr ⟨by simpa using hq, by simp only [if_neg (fun k : 0 ≤ v ∧ v < 32 ∧ Lib.itoa v = t => hq k.2.2)]⟩
        · go_wp2_with fail
          go_ret2
          refine ⟨⟨v, false, rfl, HV.out, Or.inr ⟨rfl, ?_⟩⟩, HM2.out⟩
          rw [HST.out, h1]
          exact if_neg (by omega)
      · go_wp2_with fail
        go_ret2
        refine ⟨⟨v, false, rfl, HV.out, Or.inr ⟨rfl, ?_⟩⟩, HM2.out⟩
        rw [HST.out, h1]
        exact if_neg (by omega)
    · have hno : regR s = none := by
        rw [HST.out]
        cases hp : Lib.atoiAll t with
        | ok n => exact absurd hp (h1 n)
        | range => rfl
        | _ => rfl
      clear h1
      go_wp2_with fail
      go_ret2
      exact ⟨⟨v, false, rfl, HV.out, Or.inr ⟨rfl, hno⟩⟩, HM2.out⟩
end Go.Proofs.YtodgkbcgdbhpeaaGreatDoor.AsmP

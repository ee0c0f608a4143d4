/- Proved: for any words, bytes, numbers given, steps and places the law MachineDoes returns true: what a machine has behind each of its words, and how it ends, is the reference's. Conditions: the table of forms and errors.errorType lie as the program lays them, which the card ties to the program's text. -/
import Derived.Test.YtgeajgdddjjjnaaDoorRows
import Derived.Test.YtgeajgdddjjjnaaDoorMachNew
import Derived.ProofKit
import Derived.WideShapes
import Derived.OpenShut
import Derived.ChangeSlices
import Derived.WideKeyArgs
import Derived.Test.YtgeajgdddjjjnaaDoorWordLaid
import Derived.Test.YtgeajgdddjjjnaaDoorErrTell
import Derived.LaidHandle
import Derived.Test.YtgeajgdddjjjnaaDoorDoesAt
import Derived.Test.YtgeajgdddjjjnaaDoorMachEnd
import Derived.Test.YtgeajgdddjjjnaaDoorDoesRun
import Derived.Test.YtgeajgdddjjjnaaDoorDoesNew
import Derived.Test.YtgeajgdddjjjnaaDoorFormsWalk
import Derived.Test.YtgeajgdddjjjnaaDoorMachStep
import Derived.Maps.AppendAt
import Derived.Test.YtgeajgdddjjjnaaDoorTie
import Derived.Test.YtgeajgdddjjjnaaDoorCards
import Derived.WalkKit
import Derived.LaidMore
import Derived.Stop.Joined
import Derived.SevenTiedAt
namespace Go.Proofs.YtgeajgdddjjjnaaDoor.MachP
open Go.ChangeShapes Go.WideShapes Go.RowKit Go.Proofs.YtgeajgdddjjjnaaDoor.Wo
set_option linter.unusedVariables false
set_option linter.unusedSimpArgs false

theorem addr_of_cell {W : World} {a : Addr} {v : Value} (h : W.cell? a = some v) : a = ⟨a.block, a.off, none⟩ := by
  unfold World.cell? at h
  split at h
  · split at h
    · cases h
    · rename_i hs
      cases a with
      | mk b o s => cases s with
        | none => rfl
        | some _ => simp at hs
  · cases h
theorem add_plain (b o i : Nat) : (⟨b, o, none⟩ : Addr).add i = ⟨b, o + i, none⟩ := by unfold Addr.add; split <;> simp_all
theorem wf_u32 {a : Int} (h : (Lit.int .u32 a).wf = true) : 0 ≤ a ∧ a < 4294967296 := by
  simp [Lit.wf, IntKind.min, IntKind.max, IntKind.signed, IntKind.bits] at h
  omega
theorem wf_i64 {a : Int} (h : (Lit.int .i64 a).wf = true) : -9223372036854775808 ≤ a ∧ a ≤ 9223372036854775807 := by
  simp only [Lit.wf, IntKind.min, IntKind.max, IntKind.signed, IntKind.bits, Bool.and_eq_true, decide_eq_true_eq, if_true] at h
  omega
section
variable {H : Type} {enc : TypeId × Value → H} {P : Program} {W : World}
theorem nums_open {t e : TypeId} {k : IntKind} {v : Value} {d : DataW H} {p : List MemPlace} {r : Reach} {b0 : Nat} (ht : P.underlying t = some (.slice e)) (he : P.underlying e = some (.int k)) (hc : P.cellsOf e = 1)
    (hv : Value.okWide P W r b0 t v) (h : DataW.Trod enc P W 0 (fun _ => true) true t v d p) :
    ∃ (a : Option Addr) (n c : Nat) (l : List Int), v = .slice a n c ∧ n = l.length ∧ n ≤ c ∧ c ≤ maxLen ∧ (a = none → c = 0) ∧ (∀ x ∈ l, (Lit.int k x).wf = true) ∧
      (∀ i x, l[i]? = some x → ∃ g o, a = some ⟨g, o, none⟩ ∧ W.cell? ⟨g, o + i, none⟩ = some (.int k x)) := by
  obtain ⟨a0, n0, c0, rfl⟩ := okWide_slice ht hv
  obtain ⟨fuel, hf⟩ := h
  rcases open_ints ht he hc hf with ⟨hcs, hx⟩ | ⟨a, len, cap, zs, hcs, _, hl, hm, hz, hx, hcell, hwz⟩
  · simp [Value.cells] at hcs
    obtain ⟨rfl, rfl, rfl⟩ := hcs
    exact ⟨none, 0, 0, [], rfl, rfl, Nat.le_refl _, by decide, fun _ => rfl, fun x hx => by simp at hx, fun i x hx => by simp at hx⟩
  · simp [Value.cells] at hcs
    obtain ⟨rfl, rfl, rfl⟩ := hcs
    simp only [if_true] at hz
    refine ⟨some a, n0, c0, zs.take n0, rfl, by rw [List.length_take]; omega, hl, hm, (fun h => (by cases h)), fun x hx => hwz x (List.mem_of_mem_take hx), fun i x hx => ?_⟩
    have hi : i < n0 := by
      have := (List.getElem?_eq_some_iff.1 hx).1
      rw [List.length_take] at this; omega
    rw [List.getElem?_take_of_lt hi] at hx
    have h0 := addr_of_cell (hcell 0 (by omega))
    have e0 : a.add 0 = a := by unfold Addr.add; simp
    rw [e0] at h0
    have hci := hcell i (by omega)
    rw [h0, add_plain] at hci
    refine ⟨a.block, a.off, by rw [← h0], ?_⟩
    rw [hci, List.getD_eq_getElem?_getD, hx]
    rfl
end
theorem c2 : Tryd.prog.cellsOf 2 = 1 := by kernel_rfl
theorem c24 : Tryd.prog.cellsOf 24 = 1 := by kernel_rfl
set_option maxRecDepth 100000 in
theorem ints_open {H : Type} {enc : TypeId × Value → H} {W : World} {v : Value} {d : DataW H} {p : List MemPlace} {r : Reach} {b0 : Nat} (hv : Value.okWide Tryd.prog W r b0 45 v) (h : DataW.Trod enc Tryd.prog W 0 (fun _ => true) true 45 v d p) :
    ∃ (a : Option Addr) (n c : Nat) (l : List Int), v = .slice a n c ∧ n = l.length ∧ n ≤ maxLen ∧ IntsAt W v l ∧ (∀ n c, v = .slice none n c → c = 0) ∧ (∀ x ∈ l, -9223372036854775808 ≤ x ∧ x ≤ 9223372036854775807) := by
  obtain ⟨a, n, c, l, rfl, h1, h2, h3, h4, h5, h6⟩ := nums_open Tryd.underlying45 Tryd.underlying2 c2 hv h
  refine ⟨a, n, c, l, rfl, h1, Nat.le_trans h2 h3, ⟨a, n, c, rfl, h1, h2, h3, h6⟩, fun n' c' e => ?_, fun x hx => wf_i64 (h5 x hx)⟩
  simp only [Value.slice.injEq] at e
  rw [← e.2.2]
  exact h4 e.1
set_option maxRecDepth 100000 in
theorem words_open {H : Type} {enc : TypeId × Value → H} {W : World} {v : Value} {d : DataW H} {p : List MemPlace} {r : Reach} {b0 : Nat} (hv : Value.okWide Tryd.prog W r b0 40 v) (h : DataW.Trod enc Tryd.prog W 0 (fun _ => true) true 40 v d p) :
    ∃ (a : Option Addr) (n c : Nat) (l : List Int), v = .slice a n c ∧ n = l.length ∧ n ≤ maxLen ∧ WordsAt W v l := by
  obtain ⟨a, n, c, l, rfl, h1, h2, h3, h4, h5, h6⟩ := nums_open Tryd.underlying40 Tryd.underlying24 c24 hv h
  exact ⟨a, n, c, l, rfl, h1, Nat.le_trans h2 h3, a, n, c, rfl, h1, h2, h3, fun i x hx => ⟨wf_u32 (h5 x (List.mem_of_getElem? hx)), h6 i x hx⟩⟩
theorem laid_out : laidOutB Tryd.prog = true := by kernel_rfl
end Go.Proofs.YtgeajgdddjjjnaaDoor.MachP
namespace Go.Proofs.YtgeajgdddjjjnaaDoor.ErrP
set_option linter.unusedSimpArgs false
set_option linter.unusedVariables false
open Go.Joins Go.ChangeShapes Go.WideShapes Go.RowKit Go.Deep
theorem gErr : Tryd.prog.globalNamed "errors.errorType" = some 2 := by kernel_rfl
theorem rtErr : (Tryd.prog.cutTypes.find? (·.1 == "internal/reflectlite.rtype")).map (·.2) = some 143 := by kernel_rfl
theorem oneErr : ((List.range Tryd.prog.types.size).filter fun t => Tryd.prog.rowNamed t [101, 114, 114, 111, 114]) = [27] := by kernel_rfl
theorem err_of_handles {W : World} {l : List (String × DataW Unit)} (h : handlesMet Tryd.prog l W) (hm : ("errors.errorType", (Rows.laid_errors_errorType : DataW Unit)) ∈ l) : ErrLaid W := by
  obtain ⟨name, u, ty, e1, e2, e3, e4, e5⟩ := h _ hm
  have en : name = [101, 114, 114, 111, 114] := (Option.some.inj e1).symm
  subst en
  obtain rfl := Option.some.inj (rtErr.symm.trans e2)
  have hm : ty ∈ (List.range Tryd.prog.types.size).filter fun t => Tryd.prog.rowNamed t [101, 114, 114, 111, 114] := List.mem_filter.2 ⟨List.mem_range.2 e3, e4⟩
  rw [oneErr] at hm
  obtain rfl := List.mem_singleton.1 hm
  have hh : typeHandle Tryd.prog 27 = .pointer (some ⟨3, 27, none⟩) := by kernel_rfl
  rw [hh] at e5
  unfold ErrLaid
  simpa using World.var?_cell gErr e5 0
noncomputable def both : List (String × DataW Unit) := [("errors.errorType", Rows.laid_errors_errorType), ("bloomery/word.forms", Rows.laid_bloomery_word_forms)]
theorem both_laid {W : World} (h : laidMetH Tryd.prog both W) : ErrLaid W ∧ WordP.Forms W := by
  have h' : laidMet Tryd.prog [("bloomery/word.forms", Rows.laid_bloomery_word_forms)] W ∧ handlesMet Tryd.prog [("errors.errorType", Rows.laid_errors_errorType)] W := h
  exact ⟨err_of_handles h'.2 (List.mem_singleton.2 rfl), WordP.forms_of_laid h'.1⟩
/-- The door's own heap bears both. -/
theorem both_met (os : Os) (f : _) (args : Array Value) : laidMetH Tryd.prog both ((World.doorLaid Tryd.prog 52 os).forCall f ⟨#[], args, []⟩).memory :=
  laidMetH_of_parts3 (fuel := 8) (laidMet_of_run' 8 (by kernel_rfl) (by kernel_rfl)) (by kernel_rfl) (by kernel_rfl)
end Go.Proofs.YtgeajgdddjjjnaaDoor.ErrP
namespace Go.Proofs.YtgeajgdddjjjnaaDoor.RMachP
open Go.RowKit Go.Proofs.YtgeajgdddjjjnaaDoor.Wo Go.Proofs.YtgeajgdddjjjnaaDoor.WordP Go.Proofs.YtgeajgdddjjjnaaDoor.MachP Go.Proofs.YtgeajgdddjjjnaaDoor.AluP
set_option linter.unusedVariables false
set_option linter.unusedSimpArgs false
set_option maxRecDepth 100000 in
set_option maxHeartbeats 400000 in
theorem same_ints (v1 v2 : Value) (l : List Int) (W : World) (h1 : IntsAt W v1 l) (h2 : IntsAt W v2 l) (hl : l.length ≤ 65536) :
    Calls Tryd.prog 53 #[v1, v2] W fun e W' => e = .returned (.bool true) ∧ Mods None W W' := by
  obtain ⟨a1, n1, c1, rfl, hn1, hc1, hm1, hx1⟩ := h1
  obtain ⟨a2, n2, c2, rfl, hn2, hc2, hm2, hx2⟩ := h2
  obtain rfl : n1 = n2 := by omega
  have HN := Lib.hid hn1
  have H1 := Lib.hid hx1
  have H2 := Lib.hid hx2
  have hb : n1 ≤ 65536 := by omega
  unfold maxLen at hm1 hm2
  clear hn1 hn2 hx1 hx2 hl
  go_enter Tryd.func53, Tryd.ntmps53
  go_wp2
  go_loopw [5] (fun v wr => ∃ i : Nat, i ≤ n1 ∧ v = .int .i64 i ∧ Hid (Mods None W wr)) (fun v _ => (n1 - intOf v).toNat)
  case atStart => exact ⟨0, Nat.zero_le _, rfl, Lib.hid (Mods.refl _ _)⟩
  case round =>
    obtain ⟨i, hi, rfl, hm⟩ := hrel
    by_cases hlt : i < n1
    · have hx := getD_some (l := l) (i := i) (by rw [← HN.out]; exact hlt)
      obtain ⟨x, hxe⟩ : ∃ x, x = l.getD i 0 := ⟨_, rfl⟩
      rw [← hxe] at hx
      obtain ⟨g1, o1, he1, hc1⟩ := H1.out i x hx
      obtain ⟨g2, o2, he2, hc2⟩ := H2.out i x hx
      have d1 := hm.out.cellOf hc1 (fun f => f)
      have d2 := hm.out.cellOf hc2 (fun f => f)
      subst he1 he2
      clear hc1 hc2 hx hxe
      go_wp2
      go_region
      go_wp2
      go_roundw
      case rel => exact ⟨i + 1, by omega, by go_num, Lib.hid hm.out.drew⟩
      case measure => simp [intOf]; omega
    · obtain rfl : i = n1 := by omega
      go_wp2
      go_ret
      exact ⟨rfl, hm.out⟩
set_option maxRecDepth 100000 in
set_option maxHeartbeats 400000 in
theorem same_end (a c : Int) (p1 p2 : Option Addr) (m1 m2 c1 c2 : Nat) (l : List Int) (W : World) (h1 : IntsAt W (.slice p1 m1 c1) l) (h2 : IntsAt W (.slice p2 m2 c2) l) (hl : l.length ≤ 65536) :
    Calls Tryd.prog 33 #[.agg #[.int .i64 a, .int .i64 c, .slice p1 m1 c1], .agg #[.int .i64 a, .int .i64 c, .slice p2 m2 c2]] W fun e W' => e = .returned (.bool true) ∧ Mods None W W' := by
  have H1 := Lib.hid h1
  have H2 := Lib.hid h2
  have HL := Lib.hid hl
  clear h1 h2 hl
  go_enter Tryd.func33, Tryd.ntmps33
  go_wp2_with fail
  have hm : Mods None W ((W.alloc (.cells #[.int .i64 a, .int .i64 c, .slice p1 m1 c1] 47)).alloc (.cells #[.int .i64 a, .int .i64 c, .slice p2 m2 c2] 47)) := ((Mods.refl _ _).alloc _).alloc _
  refine (same_ints _ _ l _ (H1.out.mods hm (fun _ _ f => f)) (H2.out.mods hm (fun _ _ f => f)) HL.out).mono ?_
  rintro e w1 ⟨rfl, hm1⟩
  have HM := Lib.hid (hm.trans hm1)
  clear hm hm1
  go_wp2
  go_ret
  exact ⟨rfl, HM.out⟩
/-- A slice that owns a row reads as its numbers. -/
theorem own_ints {w : World} {B : Nat} {v : Value} {l : List Int} (h : w.ownsRow B 2 1 v l.length (l.map (.int .i64))) (hl : l.length ≤ 65536) : IntsAt w v l := ints_own h hl
set_option maxRecDepth 100000 in
set_option maxHeartbeats 1000000 in
theorem same_machine (b b2 c : Nat) (O O2 : Nat → Prop) (M : Mac) (W : World) (h : Mach W b O M) (h2 : RMach c W b2 O2 M) :
    Calls Tryd.prog 30 #[.pointer (some ⟨b, 0, none⟩), .pointer (some ⟨b2, 0, none⟩)] W fun e W' => e = .returned (.bool true) ∧ Mods None W W' := by
  have H := Lib.hid h
  have H2 := Lib.hid h2
  obtain ⟨bm, inv, outv, hr, ho⟩ := h2
  obtain ⟨va, vm, vc, rfl⟩ := form_any hr.out
  have hpc := hr.cpc
  have hcw := hr.cway
  have hcc := hr.ccode
  have hco := hr.cout
  have HR := Lib.hid hr
  have HOUT : Hid (IntsAt W (.slice va vm vc) M.out) := Lib.hid (own_ints hr.out (by have := hr.many; omega))
  have HMANY : Hid (M.out.length ≤ 65536) := Lib.hid (by have := hr.many; omega)
  clear h hr ho
  go_enter Tryd.func30, Tryd.ntmps30
  go_wp2_with fail
  go_region_held3 (fun w' => Hid (Mods None W w') ∧ w'.cell? ⟨b2, 34, none⟩ = some (.int .i64 M.pc) ∧ w'.cell? ⟨b2, 36, none⟩ = some (.int .i64 M.way) ∧ w'.cell? ⟨b2, 37, none⟩ = some (.int .i64 M.code) ∧ w'.cell? ⟨b2, 38, none⟩ = some (.slice va vm vc))
    (first
      | exact ⟨Lib.hid (Mods.refl _ _).drew, hpc, hcw, hcc, hco⟩
      | assumption
      | (go_split_ands; exact ⟨Lib.hid (Mods.trans (Hid.out ‹_›) hm), hm.cellOf ‹_› (fun f => f), hm.cellOf ‹_› (fun f => f), hm.cellOf ‹_› (fun f => f), hm.cellOf ‹_› (fun f => f)⟩)
      | (go_split_ands; exact ⟨Lib.hid (Mods.trans (Hid.out ‹_›) hm2), hm2.cellOf ‹_› (fun f => f), hm2.cellOf ‹_› (fun f => f), hm2.cellOf ‹_› (fun f => f), hm2.cellOf ‹_› (fun f => f)⟩))
    ((first
      | (go_at_call 20; go_split_ands; refine (pc_any b O M _ (H.out.mods (Hid.out ‹Hid (Mods None W _)›) (fun _ _ f => f))).mono ?_; rintro e w' ⟨rfl, rfl⟩)
      | (go_at_call 22; go_split_ands; refine (end_any b O M _ (H.out.mods (Hid.out ‹Hid (Mods None W _)›) (fun _ _ f => f))).mono ?_; rintro e w3 ⟨sv, rfl, hown, hm⟩; obtain ⟨xa, xm, xc, rfl⟩ := form_any hown)
      | (go_at_call 33; go_split_ands; refine (same_end _ _ _ _ _ _ _ _ M.out _ (own_ints hown HMANY.out) (HOUT.out.mods (Hid.out ‹Hid (Mods None W _)›) (fun _ _ f => f)) HMANY.out).mono ?_; rintro e w4 ⟨rfl, hm2⟩)))
  all_goals
    go_split_ands
    have HM4 : Hid (Mods None W w4) := ‹Hid (Mods None W w4)›
    clear hpc hcw hcc hco hown hm hm2
    go_wp2_with fail
    go_loopw [5] (fun v wr => ∃ i : Nat, i ≤ 32 ∧ v = .int .i64 i ∧ Hid (Mods None W wr)) (fun v _ => (32 - intOf v).toNat)
    case atStart => exact ⟨0, by omega, rfl, HM4⟩
    case round =>
      obtain ⟨i, hi, rfl, hmi⟩ := hrel
      by_cases hlt : i < 32
      · have hri : wr.cell? ⟨b2, i, none⟩ = some (.int .i64 (M.reg i)) := by
          have h := (HR.out.mods hmi.out (fun f => f) (fun f => f) (fun _ _ f => f) (fun _ _ f => f)).reg (n := (i : Int)) (by omega) (by omega)
          simpa using h
        obtain ⟨y, hy⟩ : ∃ y, y = M.reg i := ⟨_, rfl⟩
        have HRG : Hid (∀ W', Mods None W W' → Calls Tryd.prog 21 #[.pointer (some ⟨b, 0, none⟩), .int .i64 i] W' fun e W'' => e = .returned (.int .i64 y) ∧ W' = W'') := Lib.hid (fun W' hm => by
          rw [hy]
          exact reg_in b O M W' (H.out.mods hm (fun _ _ f => f)) i (by omega) (by omega))
        rw [← hy] at hri
        clear hy
        go_wp2_with fail
        go_region_held3 (fun w' => Hid (Mods None W w') ∧ w'.cell? ⟨b2, i, none⟩ = some (.int .i64 y))
          (first
            | exact ⟨Lib.hid hmi.out.drew, hri⟩
            | assumption)
          ((first
            | (go_at_call 21; go_split_ands; refine (HRG.out _ (Hid.out ‹Hid (Mods None W _)›)).mono ?_; rintro e w' ⟨rfl, rfl⟩)))
        clear hri
        go_wp2
        go_roundw
        case rel => exact ⟨i + 1, by omega, by go_num, Lib.hid hmi.out.drew⟩
        case measure => simp [intOf]; omega
      · obtain rfl : i = 32 := by omega
        have R1 := fun W => Lib.hid (reg_out (.pointer (some ⟨b, 0, none⟩)) W (-1) (.inl (by decide)))
        have R2 := fun W => Lib.hid (reg_out (.pointer (some ⟨b, 0, none⟩)) W 32 (.inr (by decide)))
        go_wp2_with fail
        refine (R1 _).out.mono ?_
        rintro e w' ⟨rfl, rfl⟩
        go_wp2_with fail
        refine (R2 _).out.mono ?_
        rintro e w' ⟨rfl, rfl⟩
        go_wp2
        go_ret
        exact ⟨rfl, hmi.out⟩
end Go.Proofs.YtgeajgdddjjjnaaDoor.RMachP
namespace Go.Proofs.YtgeajgdddjjjnaaDoor.RMachP
open Go.RowKit Go.Proofs.YtgeajgdddjjjnaaDoor.Wo Go.Proofs.YtgeajgdddjjjnaaDoor.WordP Go.Proofs.YtgeajgdddjjjnaaDoor.MachP Go.Proofs.YtgeajgdddjjjnaaDoor.AluP
set_option linter.unusedVariables false
set_option linter.unusedSimpArgs false
structure BothAt (W wr : World) (bp br c : Nat) (Mp Mr : Mac) (Op Or : Nat → Prop) : Prop where
  p : Mach wr bp Op Mp
  r : RMach c wr br Or Mr
  apart : ∀ k, Op k → Or k → False
  pnew : ∀ k, Op k → W.heap.size ≤ k
  rnew : ∀ k, Or k → W.heap.size ≤ k
  mods : Mods None W wr
def Both (W wr : World) (bp br c : Nat) (Mp Mr : Mac) : Prop := ∃ Op Or, BothAt W wr bp br c Mp Mr Op Or
theorem BothAt.prog {W wr w' : World} {bp br c : Nat} {Mp Mr M' : Mac} {Op Or : Nat → Prop} (h : BothAt W wr bp br c Mp Mr Op Or) (hw : Went Op bp M' wr w') : Both W w' bp br c M' Mr := by
  obtain ⟨O', h1, h2, h3⟩ := hw
  refine ⟨O', Or, h1, h.r.mods h3 (fun k hr hp => h.apart k hp hr), fun k hk hr => ?_, fun k hk => ?_, h.rnew, h.mods.trans' h3 (fun k hk hlt => by have := h.pnew k hk; omega)⟩
  · rcases h2 k hk with h4 | h4
    · exact h.apart k h4 hr
    · have := h.r.lt k hr; omega
  · rcases h2 k hk with h4 | h4
    · exact h.pnew k h4
    · exact Nat.le_trans h.mods.size h4
theorem BothAt.ref {W wr w' : World} {bp br c c' : Nat} {Mp Mr M' : Mac} {Op Or : Nat → Prop} (h : BothAt W wr bp br c Mp Mr Op Or) (hw : RWent c' Or br M' wr w') : Both W w' bp br c' Mp M' := by
  obtain ⟨O', h1, h2, h3⟩ := hw
  refine ⟨Op, O', h.p.mods h3 (fun k hp hr => h.apart k hp hr), h1, fun k hp hk => ?_, h.pnew, fun k hk => ?_, h.mods.trans' h3 (fun k hk hlt => by have := h.rnew k hk; omega)⟩
  · rcases h2 k hk with h4 | h4
    · exact h.apart k hp h4
    · have := h.p.lt k hp; omega
  · rcases h2 k hk with h4 | h4
    · exact h.rnew k h4
    · exact Nat.le_trans h.mods.size h4
theorem BothAt.none {W wr w' : World} {bp br c : Nat} {Mp Mr : Mac} {Op Or : Nat → Prop} (h : BothAt W wr bp br c Mp Mr Op Or) (hm : Mods None wr w') : BothAt W w' bp br c Mp Mr Op Or :=
  ⟨h.p.mods hm (fun _ _ f => f), h.r.mods hm (fun _ _ f => f), h.apart, h.pnew, h.rnew, h.mods.trans hm⟩
theorem Both.none {W wr w' : World} {bp br c : Nat} {Mp Mr : Mac} (h : Both W wr bp br c Mp Mr) (hm : Mods None wr w') : Both W w' bp br c Mp Mr := by
  obtain ⟨Op, Or, h⟩ := h
  exact ⟨Op, Or, h.none hm⟩
theorem Both.mono {W wr : World} {bp br c c' : Nat} {Mp Mr : Mac} (h : Both W wr bp br c Mp Mr) (hc : c ≤ c') : Both W wr bp br c' Mp Mr := by
  obtain ⟨Op, Or, h⟩ := h
  exact ⟨Op, Or, h.p, h.r.mono hc, h.apart, h.pnew, h.rnew, h.mods⟩
/-- The contracts, of both. -/
theorem both_stepP {W wr : World} {bp br c : Nat} {Mp Mr : Mac} (h : Both W wr bp br c Mp Mr) (hF : Forms W) :
    Calls Tryd.prog 23 #[.pointer (some ⟨bp, 0, none⟩)] wr fun e w' => e = .returned (.tuple #[]) ∧ Both W w' bp br c Mp.step Mr := by
  obtain ⟨Op, Or, h⟩ := h
  have hz : 0 < W.heap.size := WordP.zero_lt (hF 1 (by decide) (by decide)).c0
  exact (step_any bp Op Mp wr h.p (MachP.forms_mods hF h.mods (fun f => f)) (fun f => by have := h.pnew 0 f; omega)).mono fun e w' ⟨he, hw⟩ => ⟨he, h.prog hw⟩
theorem both_stepR {W wr : World} {bp br c : Nat} {Mp Mr : Mac} (h : Both W wr bp br c Mp Mr) (hf : Fit Mr) (hc : c < 100000) :
    Calls Tryd.prog 29 #[.pointer (some ⟨br, 0, none⟩)] wr fun e w' => e = .returned (.tuple #[]) ∧ Both W w' bp br (c + 1) Mp Mr.step := by
  obtain ⟨Op, Or, h⟩ := h
  exact (rstep_any c br Or Mr wr h.r hf hc).mono fun e w' ⟨he, hw⟩ => ⟨he, h.ref hw⟩
theorem both_same {W wr : World} {bp br c : Nat} {M : Mac} (h : Both W wr bp br c M M) :
    Calls Tryd.prog 30 #[.pointer (some ⟨bp, 0, none⟩), .pointer (some ⟨br, 0, none⟩)] wr fun e w' => e = .returned (.bool true) ∧ Both W w' bp br c M M := by
  obtain ⟨Op, Or, h⟩ := h
  exact (same_machine bp br c Op Or M wr h.p h.r).mono fun e w' ⟨he, hm⟩ => ⟨he, Op, Or, h.none hm⟩
/-- A load, by both: what it tells. -/
def errV (e : Int) : Value := if e = 0 then .nilIface else .iface 54 (.int .i64 e)
theorem both_load {W wr : World} {bp br c : Nat} {M : Mac} (h : Both W wr bp br c M M) {a : Int} (ha : I64 a) :
    ∃ (v ev : Int) (err : Value), RefP.BareYes err ev ∧ I64 v ∧
      (Calls Tryd.prog 31 #[.pointer (some ⟨br, 0, none⟩), .int .i64 a] wr fun e w' => e = .returned (.tuple #[.int .i64 v, .int .i64 ev]) ∧ wr = w') ∧
      (Calls Tryd.prog 16 #[.pointer (some ⟨bp, 0, none⟩), .int .i64 a] wr fun e w' => e = .returned (.tuple #[.int .i64 v, err]) ∧ wr = w') ∧
      ∃ (err2 : Value) (e2 : Int) (M' : Mac), RefP.BareYes err2 e2 ∧ ∀ x, I64 x → ∃ M' : Mac, (Fit M → Fit M') ∧
        (∀ w1 c1, c1 < 100000 → Both W w1 bp br c1 M M → Calls Tryd.prog 17 #[.pointer (some ⟨bp, 0, none⟩), .int .i64 a, .int .i64 x] w1 fun e w' => e = .returned err2 ∧ Both W w' bp br c1 M' M) ∧
        (∀ w1 c1, c1 < 100000 → Both W w1 bp br c1 M' M → Calls Tryd.prog 32 #[.pointer (some ⟨br, 0, none⟩), .int .i64 a, .int .i64 x] w1 fun e w' => e = .returned (.int .i64 e2) ∧ Both W w' bp br (c1 + 1) M' M') := by
  obtain ⟨Op, Or, h⟩ := h
  obtain ⟨bm, inv, outv, h1, h2⟩ := h.p
  obtain ⟨bm2, inv2, outv2, h3, h4⟩ := h.r
  cases hr : M.right a 8
  · refine ⟨0, 2, _, RefP.bare_yes_errno 2, i64_zero, rload_no h3 ha hr, load_not h1 hr, _, 2, M, RefP.bare_yes_errno 2, fun x hx => ⟨M, id, fun w1 c1 hc hb => ?_, fun w1 c1 hc hb => ?_⟩⟩
    · obtain ⟨Op1, Or1, hb⟩ := hb
      obtain ⟨bm1, inv1, outv1, g1, g2⟩ := hb.p
      exact (store_not g1 x hr).mono fun e w' ⟨he, hw⟩ => ⟨he, by rw [← hw]; exact ⟨Op1, Or1, hb⟩⟩
    · obtain ⟨Op1, Or1, hb⟩ := hb
      obtain ⟨bm1, inv1, outv1, g1, g2⟩ := hb.r
      exact (rstore_no g1 x ha hr).mono fun e w' ⟨he, hw⟩ => ⟨he, by rw [← hw]; exact (Both.mono ⟨Op1, Or1, hb⟩ (Nat.le_succ _))⟩
  · refine ⟨M.load a, 0, _, RefP.bare_yes_nil, load_in _ _, rload_yes h3 ha hr, load_at h1 hr, _, 0, M, RefP.bare_yes_nil, fun x hx => ⟨M.store a x, fun hf => ⟨hf.regs, hf.pc, hf.r0, hf.ins, hf.len⟩, fun w1 c1 hc hb => ?_, fun w1 c1 hc hb => ?_⟩⟩
    · obtain ⟨Op1, Or1, hb⟩ := hb
      obtain ⟨bm1, inv1, outv1, g1, g2⟩ := hb.p
      exact (store_at g1 x hr).mono fun e w' ⟨he, hm, hw⟩ => ⟨he, hb.prog (went_of hm g2 (fun _ h => h) (fun _ h => .inl h) (hw.mono fun k _ e => .inr (.inl e)))⟩
    · obtain ⟨Op1, Or1, hb⟩ := hb
      obtain ⟨bm1, inv1, outv1, g1, g2⟩ := hb.r
      exact (rstore_yes g1 ha hx hr (by omega)).mono fun e w' ⟨he, hm, hw⟩ => ⟨he, hb.ref (rwent_of hm g2 (fun _ h => h) (fun _ h => .inl h) (hw.mono fun k _ e => .inr (.inl e)))⟩
/-- Both run. -/
def RanP (W wr : World) (bp br c : Nat) (Mp Mr : Mac) (e : Ending) (w' : World) : Prop :=
  ∃ va vm vc, e = .returned (.agg #[.int .i64 (Mp.run 300).endWay, .int .i64 (Mp.run 300).code, .slice va vm vc]) ∧ IntsAt w' (.slice va vm vc) (Mp.run 300).out ∧ (Mp.run 300).out.length ≤ 65536 ∧ ∃ Op Or, BothAt W w' bp br c (Mp.run 300) Mr Op Or ∧ ∀ k, (Value.slice va vm vc).ownBlock = some k → ¬ Or k
theorem both_runP {W wr : World} {bp br c : Nat} {Mp Mr : Mac} (h : Both W wr bp br c Mp Mr) (hF : Forms W) :
    Calls Tryd.prog 18 #[.pointer (some ⟨bp, 0, none⟩), .int .i64 300] wr (RanP W wr bp br c Mp Mr) := by
  obtain ⟨Op, Or, h⟩ := h
  have hz : 0 < W.heap.size := WordP.zero_lt (hF 1 (by decide) (by decide)).c0
  refine (run_any bp Op Mp wr h.p (MachP.forms_mods hF h.mods (fun f => f)) (fun f => by have := h.pnew 0 f; omega) 300 (by decide)).mono ?_
  rintro e w' ⟨sv, he, hown, O', h1, h2, h3, h4⟩
  obtain ⟨va, vm, vc, rfl⟩ := form_any hown
  have hmany : (Mp.run 300).out.length ≤ 200 := by
    obtain ⟨bm, inv, outv, g1, g2⟩ := h1
    exact g1.many
  have hw : Went Op bp (Mp.run 300) wr w' := ⟨O', h1, h2, h3⟩
  refine ⟨va, vm, vc, he, own_ints hown (by show (Mp.run 300).out.length ≤ 65536; omega), by omega, O', Or, ⟨h1, h.r.mods h3 (fun k hr hp => h.apart k hp hr), fun k hk hr => ?_, fun k hk => ?_, h.rnew, h.mods.trans' h3 (fun k hk hlt => by have := h.pnew k hk; omega)⟩, fun k hk hr => ?_⟩
  · rcases h2 k hk with h5 | h5
    · exact h.apart k h5 hr
    · have := h.r.lt k hr; omega
  · rcases h2 k hk with h5 | h5
    · exact h.pnew k h5
    · exact Nat.le_trans h.mods.size h5
  · have h5 := (hown.lt k hk).1
    have h6 := h.r.lt k hr
    omega
def RanR (W : World) (bp br c : Nat) (M : Mac) (v : Value) (e : Ending) (w' : World) : Prop :=
  ∃ va vm vc, e = .returned (.agg #[.int .i64 M.endWay, .int .i64 M.code, .slice va vm vc]) ∧ IntsAt w' (.slice va vm vc) M.out ∧ IntsAt w' v M.out ∧ Both W w' bp br c M M
theorem both_runR {W wr : World} {bp br c : Nat} {M : Mac} {Op Or : Nat → Prop} (h : BothAt W wr bp br c (M.run 300) M Op Or) (hf : Fit M) (hc : c < 1000) {v : Value} (hv : IntsAt wr v (M.run 300).out) (hn : ∀ k, v.ownBlock = some k → ¬ Or k) :
    Calls Tryd.prog 34 #[.pointer (some ⟨br, 0, none⟩), .int .i64 300] wr (RanR W bp br (c + 300) (M.run 300) v) := by
  refine (rrun_any c br Or M wr h.r hf 300 (by decide) (by omega)).mono ?_
  rintro e w' ⟨va, vm, vc, he, hown, hw⟩
  have hmany : (M.run 300).out.length ≤ 200 := by
    obtain ⟨O', ⟨bm, inv, outv, g1, g2⟩, _⟩ := hw
    exact g1.many
  have hm := hw.choose_spec.2.2
  exact ⟨va, vm, vc, he, own_ints hown (by omega), hv.mods hm hn, h.ref hw⟩
theorem wpList_append_none {P : Program} (w : World) {ops : Array Oper} {rest : List Oper} {o : Oper} {a : Act} {Q : Exit → Act → World → Prop} (hgd : o.guard = none) (s x : Operand) (t : TypeId)
    (ho : o.op = .call { callee := .builtin .append, args := #[s, x], argTypes := #[t, t] })
    (base : Nat) (e : TypeId) (i : TypeInfo) (size : Nat) (ht : P.underlying t = some (.slice e)) (hi : P.info? e = some i)
    (v : Value) (n : Nat) (xs : List Value) (hs : a.eval s = v) (hown : w.ownsRow base e size v n xs) (hx : a.eval x = .slice none 0 0)
    (h : wpList P ops Q rest (a.put o.dst v) w) : wpList P ops Q (o :: rest) a w := by
  refine wpList_plain hgd fun K hK => ?_
  have hrun := run_append_owned_none (P := P) (w := w) base t o.type e i size ht hi v n xs hown
  unfold Oper.wp
  simp [execOp, ho, resolve, invoke, builtin, hs, hx, hrun, Result.andThen]
  exact hK _ _ h
theorem WordsAt.mods {W W' : World} {v : Value} {l : List Int} (h : WordsAt W v l) (hm : Mods None W W') : WordsAt W' v l := by
  obtain ⟨a, n, c, rfl, h1, h2, h3, h4⟩ := h
  refine ⟨a, n, c, rfl, h1, h2, h3, fun i x hx => ?_⟩
  obtain ⟨h5, g, o, h6, h7⟩ := h4 i x hx
  exact ⟨h5, g, o, h6, hm.cellOf h7 (fun f => f)⟩
theorem fit_new (ws l : List Int) (B : Nat) (hB : B ≤ 65536) (hl : ∀ x ∈ l, I64 x) : Fit (Mac.new ws B l) := by
  have h0 : Fit (⟨List.replicate 32 0, (Mac.new ws B l).mem, 0, l, 0, 0, []⟩ : Mac) := by
    refine ⟨fun i => ?_, i64_zero, ?_, hl, by simp⟩
    · have : (⟨List.replicate 32 0, (Mac.new ws B l).mem, 0, l, 0, 0, []⟩ : Mac).reg i = 0 := by
        simp only [Mac.reg, List.getD_eq_getElem?_getD, List.getElem?_replicate]
        split <;> rfl
      rw [this]; exact i64_zero
    · rfl
  exact fit_put (n := 2) (v := B) h0 (by decide) (by unfold I64; omega)
end Go.Proofs.YtgeajgdddjjjnaaDoor.RMachP
namespace Go.Proofs.YtgeajgdddjjjnaaDoor.RMachP
open Go.RowKit Go.Proofs.YtgeajgdddjjjnaaDoor.Wo Go.Proofs.YtgeajgdddjjjnaaDoor.WordP Go.Proofs.YtgeajgdddjjjnaaDoor.MachP Go.Proofs.YtgeajgdddjjjnaaDoor.AluP Go.Proofs.YtgeajgdddjjjnaaDoor.ErrP
set_option linter.unusedVariables false
set_option linter.unusedSimpArgs false
set_option maxRecDepth 100000 in
set_option maxHeartbeats 400000 in
theorem does_far (a0 a2 a4 : Option Addr) (n0 c0 n2 c2 n4 c4 : Nat) (B s : Int) (W : World) (h0 : n0 ≤ maxLen) (h2 : n2 ≤ maxLen) (h4 : n4 ≤ maxLen) (h : 60 < n0 ∨ 20 < n2 ∨ 20 < n4) :
    Calls Tryd.prog 8 #[.slice a0 n0 c0, .int .i64 B, .slice a2 n2 c2, .int .i64 s, .slice a4 n4 c4] W fun e W' => e = .returned (.bool true) ∧ Mods None W W' := by
  unfold maxLen at h0 h2 h4
  by_cases h6 : 60 < (n0 : Int)
  · clear h
    go_enter Tryd.func8, Tryd.ntmps8
    go_wp2
    go_ret
    exact ⟨rfl, Mods.refl _ _⟩
  by_cases h7 : 20 < (n2 : Int)
  · clear h
    go_enter Tryd.func8, Tryd.ntmps8
    go_wp2
    go_ret
    exact ⟨rfl, Mods.refl _ _⟩
  have h8 : 20 < (n4 : Int) := by omega
  clear h
  go_enter Tryd.func8, Tryd.ntmps8
  go_wp2
  go_ret
  exact ⟨rfl, Mods.refl _ _⟩
/-- What the law makes of what is given: a slice of its own. -/
structure Given (W w1 : World) (v : Value) (l : List Int) : Prop where
  mods : Mods None W w1
  ints : IntsAt w1 v l
  own : ∀ k, v.ownBlock = some k → W.heap.size ≤ k ∧ k < w1.heap.size
theorem given_none (W : World) {l : List Int} (hl : l = []) : Given W (W.alloc (.cells #[] 2)) (.slice (some ⟨W.heap.size, 0, none⟩) 0 0) l := by
  subst hl
  exact ⟨(Mods.refl _ _).alloc _, own_ints (own_C W) (by simp), fun k hk => by
    have : W.heap.size = k := by simpa [Value.ownBlock] using hk
    subst this
    simp⟩
theorem given_some {W w1 : World} {v : Value} {l : List Int} {n : Nat} (hn : n = l.length) (hl : l.length ≤ 65536) (hown : w1.ownsRow W.heap.size 2 1 v (0 + n) ([] ++ l.map (.int .i64))) (hg : (W.alloc (.cells #[] 2)).grownBy w1 (some W.heap.size)) : Given W w1 v l := by
  have hm : Mods (· = W.heap.size) (W.alloc (.cells #[] 2)) w1 := Mods.of_grownBy hg (fun k hk _ => by cases hk; rfl)
  rw [Nat.zero_add, List.nil_append, hn] at hown
  exact ⟨((Mods.refl None W).alloc (.cells #[] 2)).trans' hm (fun k hk hlt => by omega), own_ints hown hl, hown.lt⟩
theorem both_new {W w1 w2 w3 : World} {v : Value} {ws l : List Int} {B b br : Nat} {Op Or : Nat → Prop} (hg : Given W w1 v l) (h2 : RMach 60 w2 br Or (Mac.new ws B l)) (hr : ∀ k, Or k → w1.heap.size ≤ k ∨ v.ownBlock = some k) (hm2 : Mods None w1 w2)
    (h3 : Mach w3 b Op (Mac.new ws B l)) (hp : ∀ k, Op k → w2.heap.size ≤ k) (hm3 : Mods None w2 w3) : Both W w3 b br 60 (Mac.new ws B l) (Mac.new ws B l) := by
  refine ⟨Op, Or, h3, h2.mods hm3 (fun _ _ f => f), fun k hk ho => ?_, fun k hk => ?_, fun k hk => ?_, (hg.mods.trans hm2).trans hm3⟩
  · have h4 := h2.lt k ho
    have h5 := hp k hk
    omega
  · have h5 := hp k hk
    have h6 := hg.mods.size
    have h7 := hm2.size
    omega
  · rcases hr k hk with h | h
    · have h6 := hg.mods.size
      omega
    · exact (hg.own k h).1
set_option maxRecDepth 100000 in
set_option maxHeartbeats 2000000 in
theorem does_walk (a0 a2 a4 : Option Addr) (n0 c0 n2 c2 n4 c4 : Nat) (B s : Int) (ws l ats : List Int) (W : World) (hw : WordsAt W (.slice a0 n0 c0) ws) (hl : IntsAt W (.slice a2 n2 c2) l) (ha : IntsAt W (.slice a4 n4 c4) ats)
    (hnil : a2 = none → c2 = 0) (hl64 : ∀ x ∈ l, I64 x) (ha64 : ∀ x ∈ ats, I64 x) (hF : Forms W) (hE : ErrLaid W) (h60 : n0 ≤ 60) (h20 : n2 ≤ 20) (h204 : n4 ≤ 20) :
    Calls Tryd.prog 8 #[.slice a0 n0 c0, .int .i64 B, .slice a2 n2 c2, .int .i64 s, .slice a4 n4 c4] W fun e W' => e = .returned (.bool true) ∧ Mods None W W' := by
  have HW := Lib.hid hw
  have HL := Lib.hid hl
  have HA := Lib.hid ha
  have HN0 : Hid (n0 = ws.length) := Lib.hid (by obtain ⟨_, _, _, e, h, _⟩ := hw; cases e; exact h)
  have HN2 : Hid (n2 = l.length) := Lib.hid (by obtain ⟨_, _, _, e, h, _⟩ := hl; cases e; exact h)
  have HN4 : Hid (n4 = ats.length) := Lib.hid (by obtain ⟨_, _, _, e, h, _⟩ := ha; cases e; exact h)
  have HL64 := Lib.hid hl64
  have HA64 := Lib.hid ha64
  have HF := Lib.hid hF
  have HE := Lib.hid hE
  have HNIL := Lib.hid hnil
  have k60 : (n0 : Int) ≤ 60 := by omega
  have k20 : (n2 : Int) ≤ 20 := by omega
  have k204 : (n4 : Int) ≤ 20 := by omega
  obtain ⟨i0, hi, hz0, hz1, hz2⟩ := info_parts Tryd.info2
  have HC4 : Hid (∀ (i : Nat) (x : Int), ats[i]? = some x → ∃ g o, a4 = some ⟨g, o, none⟩ ∧ W.cell? ⟨g, o + i, none⟩ = some (.int .i64 x)) := Lib.hid (fun i x hx => by
    obtain ⟨_, _, _, e, _, _, _, h⟩ := ha
    cases e
    exact h i x hx)
  have HADDR : Hid (∀ x, l[0]? = some x → ∃ g o, a2 = some ⟨g, o, none⟩) := Lib.hid (fun x hx => by
    obtain ⟨_, _, _, e, _, _, _, h⟩ := hl
    cases e
    obtain ⟨g, o, h1, _⟩ := h 0 x hx
    exact ⟨g, o, h1⟩)
  have hcase : Hid (Value.slice a2 n2 c2 = .slice none 0 0) ∨ ∃ ad, Hid (Value.slice a2 n2 c2 = .slice (some ad) n2 c2) := by
    cases a2 with
    | none =>
      left
      have e1 := hnil rfl
      obtain ⟨_, _, _, e, h1, h2, _⟩ := hl
      cases e
      exact Lib.hid (by rw [e1, show n2 = 0 by omega])
    | some ad => exact .inr ⟨ad, Lib.hid rfl⟩
  have HN3 : Hid (∀ n c, Value.slice a2 n2 c2 = .slice none n c → c = 0) := Lib.hid (fun n c h => by
    simp only [Value.slice.injEq] at h
    rw [← h.2.2]; exact hnil h.1)
  clear hw hl ha hl64 ha64 hF hE hnil HNIL
  have HNIL2 : Hid (∀ n c, Value.slice a2 n2 c2 = .slice none n c → c = 0) := HN3
  rcases hcase with HX | ⟨ad, HX⟩
  · go_enter Tryd.func8, Tryd.ntmps8
    go_wp2_with (at_builtin; go_loud (refine wpList_append_none _ rfl (.tmp 38) (.tmp 39) 45 rfl W.heap.size 2 i0 1 Tryd.underlying45 hi (.slice (some ⟨W.heap.size, 0, none⟩) 0 0) 0 [] rfl (own_C W) HX.out ?_))
    have hg : Given W (W.alloc (.cells #[] 2)) (.slice (some ⟨W.heap.size, 0, none⟩) 0 0) l := given_none W (by
      have h := HX.out
      simp only [Value.slice.injEq] at h
      exact List.eq_nil_of_length_eq_zero (by rw [← HN2.out]; exact h.2.1))
    obtain ⟨va, vm, vc, hv⟩ : ∃ va vm vc, Value.slice (some ⟨W.heap.size, 0, none⟩) 0 0 = .slice va vm vc := ⟨_, _, _, rfl⟩
    obtain ⟨w1, hw1⟩ : ∃ w1, w1 = W.alloc (.cells #[] 2) := ⟨_, rfl⟩
    rw [hv, ← hw1] at hg
    rw [hv, ← hw1]
    have HG := Lib.hid hg
    clear hg hv hw1 hi hz0 hz1 hz2
    by_cases hbad : B < 8 ∨ 65536 < B ∨ B % 8 ≠ 0
    · have HB := Lib.hid hbad
      clear hbad
      have HE1 : Hid (ErrLaid w1) := Lib.hid (HG.out.mods.cellOf HE.out (fun f => f))
      refine (rnew_range _ _ _ _ HB.out).mono ?_
      rintro e w ⟨rfl, rfl⟩
      go_wp2_with fail
      refine (new_range _ _ _ _ HB.out).mono ?_
      rintro e w ⟨rfl, rfl⟩
      go_wp2_with fail
      refine (RefP.bare_yes_errno 2 _ HE1.out).mono ?_
      rintro e w2 ⟨rfl, hm2⟩
      have HM2 := Lib.hid hm2
      clear hm2
      go_wp2_with fail
      refine (RefP.bare_yes_errno 2 _ (HM2.out.cellOf HE1.out (fun f => f))).mono ?_
      rintro e w3 ⟨rfl, hm3⟩
      have HM3 := Lib.hid hm3
      clear hm3
      go_wp2
      go_ret
      exact ⟨rfl, (HG.out.mods.trans HM2.out).trans HM3.out⟩
    · have hb8 : 8 ≤ B := by omega
      have hb6 : B ≤ 65536 := by omega
      have HB0 : Hid (B % 8 = 0) := Lib.hid (by omega)
      clear hbad
      by_cases hlim : B < 4 * n0
      · have HE1 : Hid (ErrLaid w1) := Lib.hid (HG.out.mods.cellOf HE.out (fun f => f))
        refine (rnew_limit _ _ _ _ _ _ hb8 hb6 HB0.out hlim (by omega)).mono ?_
        rintro e w ⟨rfl, rfl⟩
        go_wp2_with fail
        refine (new_limit _ _ _ _ _ _ hb8 hb6 HB0.out hlim (by unfold maxLen; omega)).mono ?_
        rintro e w ⟨rfl, rfl⟩
        go_wp2_with fail
        refine (RefP.bare_yes_errno 4 _ HE1.out).mono ?_
        rintro e w2 ⟨rfl, hm2⟩
        have HM2 := Lib.hid hm2
        clear hm2
        go_wp2_with fail
        refine (RefP.bare_yes_errno 4 _ (HM2.out.cellOf HE1.out (fun f => f))).mono ?_
        rintro e w3 ⟨rfl, hm3⟩
        have HM3 := Lib.hid hm3
        clear hm3
        go_wp2
        go_ret
        exact ⟨rfl, (HG.out.mods.trans HM2.out).trans HM3.out⟩
      · obtain ⟨Bn, rfl⟩ := Int.eq_ofNat_of_zero_le (show 0 ≤ B by omega)
        have HBF : Hid (8 ≤ Bn ∧ Bn ≤ 65536 ∧ Bn % 8 = 0 ∧ 4 * ws.length ≤ Bn) := Lib.hid (by have h1 := HB0.out; have h2 := HN0.out; omega)
        clear hlim
        refine (rnew_made _ va vm vc ws l Bn w1 HBF.out.1 HBF.out.2.1 HBF.out.2.2.1 (WordsAt.mods HW.out HG.out.mods) HBF.out.2.2.2 HG.out.ints (fun k hk => (HG.out.own k hk).2) (by have := HN0.out; omega)).mono ?_
        rintro e w2 ⟨br, rfl, Or, hr, hor, hm2⟩
        have HR := Lib.hid hr
        have HOR := Lib.hid hor
        have HM2 := Lib.hid hm2
        clear hr hor hm2
        go_wp2_with fail
        refine (new_made _ _ ws l Bn w2 HBF.out.1 HBF.out.2.1 HBF.out.2.2.1 (WordsAt.mods HW.out (HG.out.mods.trans HM2.out)) HBF.out.2.2.2 (HL.out.mods (HG.out.mods.trans HM2.out) (fun _ _ f => f)) (by have := HN2.out; omega) HNIL2.out).mono ?_
        rintro e w3 ⟨b, rfl, Op, hp, hop, hm3⟩
        have HBOTH : Hid (Both W w3 b br 60 (Mac.new ws Bn l) (Mac.new ws Bn l)) := Lib.hid (both_new HG.out HR.out HOR.out HM2.out hp hop hm3)
        have HFIT : Hid (Fit (Mac.new ws Bn l)) := Lib.hid (fit_new ws l Bn HBF.out.2.1 HL64.out)
        have HM3 : Hid (Mods None W w3) := Lib.hid ((HG.out.mods.trans HM2.out).trans hm3)
        clear hp hop hm3
        go_wp2_with fail
        refine (RefP.bare_yes_nil _ (HM3.out.cellOf HE.out (fun f => f))).mono ?_
        rintro e w4 ⟨rfl, hm4⟩
        have HB4 := Lib.hid (HBOTH.out.none hm4)
        clear hm4
        obtain ⟨M0, hM0⟩ : ∃ M0, M0 = Mac.new ws Bn l := ⟨_, rfl⟩
        rw [← hM0] at HB4 HFIT
        clear hM0
        go_wp2_with fail
        go_loopw [15] (fun v wr => ∃ (i : Nat) (M : Mac), i ≤ 60 ∧ v = .int .i64 i ∧ Hid (Both W wr b br (60 + i) M M) ∧ Hid (Fit M)) (fun v _ => (60 - intOf v).toNat)
        case atStart => exact ⟨0, M0, by omega, rfl, HB4, HFIT⟩
        case round =>
          obtain ⟨i, M, hi, rfl, hb, hft⟩ := hrel
          have HK : Hid (wrap64 ((IntKind.u64.wrap s).tmod 60) < 60) := Lib.hid (by
            have h : (IntKind.u64.wrap s).tmod 60 = (IntKind.u64.wrap s) % 60 := by rw [IntKind.wrap_u64]; exact Int.tmod_eq_emod_of_nonneg (by omega)
            rw [h]; unfold wrap64; omega)
          by_cases hlt : (i : Int) < wrap64 ((IntKind.u64.wrap s).tmod 60)
          · go_wp2_with fail
            refine (both_stepP hb.out HF.out).mono ?_
            rintro e w5 ⟨rfl, h5⟩
            have HB5 := Lib.hid h5
            clear h5
            go_wp2_with fail
            refine (both_stepR HB5.out hft.out (by omega)).mono ?_
            rintro e w6 ⟨rfl, h6⟩
            have HB6 := Lib.hid h6
            clear h6
            go_wp2_with fail
            refine (both_same HB6.out).mono ?_
            rintro e w7 ⟨rfl, h7⟩
            have HB7 := Lib.hid h7
            clear h7
            go_wp2
            go_roundw
            case rel => exact ⟨i + 1, M.step, by have := HK.out; omega, by go_num, HB7, Lib.hid (fit_step hft.out)⟩
            case measure => have := HK.out; simp [intOf]; omega
          · have HB5 : Hid (Both W wr b br 120 M M) := Lib.hid (hb.out.mono (by omega))
            clear hb
            go_wp2_with fail
            go_loopw [16] (fun v wq => ∃ (j : Nat) (M : Mac), j ≤ n4 ∧ v = .int .i64 j ∧ Hid (Both W wq b br (120 + j) M M) ∧ Hid (Fit M)) (fun v _ => (n4 - intOf v).toNat)
            case atStart => exact ⟨0, M, Nat.zero_le _, rfl, HB5, hft⟩
            case round =>
              obtain ⟨j, M2, hj, rfl, hb2, hft2⟩ := hrel
              have HALL : Hid (Mods None W wr) := Lib.hid (by obtain ⟨Op, Or, h⟩ := hb2.out; exact h.mods)
              by_cases hjl : j < n4
              · have hx := getD_some (l := ats) (i := j) (by rw [← HN4.out]; exact hjl)
                obtain ⟨x, hxe⟩ : ∃ x, x = ats.getD j 0 := ⟨_, rfl⟩
                rw [← hxe] at hx
                obtain ⟨g, o, he, hc⟩ := HC4.out j x hx
                have hc' := HALL.out.cellOf hc (fun f => f)
                have hx64 : I64 x := HA64.out x (List.mem_of_getElem? hx)
                obtain ⟨v, ev, er, hby, hv64, hlr, hlp, er2, e2, _, hby2, hst⟩ := both_load hb2.out hx64
                obtain ⟨M3, hfm, hs1, hs2⟩ := hst (wrap64 (v + j)) (I64.wrap _)
                have H1 := Lib.hid hby
                have H2 := Lib.hid hlr
                have H3 := Lib.hid hlp
                have H4 := Lib.hid hby2
                have H5 := Lib.hid hs1
                have H6 := Lib.hid hs2
                have H7 := Lib.hid hfm
                subst he
                clear hc hx hxe hx64 hby hv64 hlr hlp hby2 hst hfm hs1 hs2
                go_wp2_with fail
                refine H2.out.mono ?_
                rintro e w' ⟨rfl, rfl⟩
                go_wp2_with fail
                refine H3.out.mono ?_
                rintro e w' ⟨rfl, rfl⟩
                go_wp2_with fail
                refine (H1.out _ (HALL.out.cellOf HE.out (fun f => f))).mono ?_
                rintro e w5 ⟨rfl, hm5⟩
                have HM5 := Lib.hid hm5
                clear hm5
                go_wp2_with fail
                refine (H5.out _ (120 + j) (by omega) (hb2.out.none HM5.out)).mono ?_
                rintro e w6 ⟨rfl, h6⟩
                have HB6 := Lib.hid h6
                clear h6
                go_wp2_with fail
                refine (H6.out _ (120 + j) (by omega) HB6.out).mono ?_
                rintro e w7 ⟨rfl, h7⟩
                have HB7 := Lib.hid h7
                clear h7
                go_wp2_with fail
                refine (H4.out _ (by obtain ⟨Op, Or, h⟩ := HB7.out; exact h.mods.cellOf HE.out (fun f => f))).mono ?_
                rintro e w8 ⟨rfl, hm8⟩
                have HB8 := Lib.hid (HB7.out.none hm8)
                clear hm8
                go_wp2
                go_roundw
                case rel => exact ⟨j + 1, M3, by omega, by go_num, HB8, Lib.hid (H7.out hft2.out)⟩
                case measure => simp [intOf]; omega
              · obtain rfl : j = n4 := by omega
                go_wp2_with fail
                refine (both_runP hb2.out HF.out).mono ?_
                rintro e w5 ⟨ua, um, uc, rfl, hi1, hmany, Op5, Or5, hb5, hno⟩
                have I1 := Lib.hid hi1
                have IM := Lib.hid hmany
                have HB5 := Lib.hid hb5
                have HNO := Lib.hid hno
                clear hi1 hmany hb5 hno
                go_wp2_with fail
                refine (both_runR HB5.out hft2.out (by omega) I1.out HNO.out).mono ?_
                rintro e w6 ⟨ta, tm, tc, rfl, hi2, hi3, hb6⟩
                have I2 := Lib.hid hi2
                have I3 := Lib.hid hi3
                have HB6 := Lib.hid hb6
                clear hi2 hi3 hb6
                go_wp2_with fail
                refine (same_end _ _ _ _ _ _ _ _ (M2.run 300).out _ I3.out I2.out IM.out).mono ?_
                rintro e w7 ⟨rfl, hm7⟩
                have HB7 := Lib.hid (HB6.out.none hm7)
                clear hm7
                go_wp2_with fail
                refine (both_same HB7.out).mono ?_
                rintro e w8 ⟨rfl, h8⟩
                have HB8 := Lib.hid h8
                clear h8
                go_wp2
                go_ret
                exact ⟨rfl, by obtain ⟨Op, Or, h⟩ := HB8.out; exact h.mods⟩
  · go_enter Tryd.func8, Tryd.ntmps8
    go_wp2_with (at_builtin; go_loud (refine wpList_append_own_at _ rfl (.tmp 38) (.tmp 39) 45 rfl W.heap.size 2 i0 (.int .i64 0) 1 8 Tryd.underlying45 hi hz0 hz1 hz2 rfl (by decide) (.slice (some ⟨W.heap.size, 0, none⟩) 0 0) 0 [] rfl (own_C W) ad n2 c2 (l.map (.int .i64)) HX.out (by rw [List.length_map, ← HN2.out, Nat.mul_one]) (ints_news (by have h := HL.out; rw [HX.out] at h; exact h) ((Mods.refl _ _).alloc _)) (ints_oneCell .i64 l) (by unfold maxLen; omega) (by omega) (by simp) ?_); intro v' w1 hown hgrow hnl hloc)
    have hg : Given W w1 v' l := given_some HN2.out (by have := HN2.out; omega) hown hgrow
    obtain ⟨va, vm, vc, rfl⟩ : ∃ va vm vc, v' = .slice va vm vc := by
      obtain ⟨_, _, _, e, _⟩ := hg.ints
      exact ⟨_, _, _, e⟩
    have HG := Lib.hid hg
    clear hg hi hz0 hz1 hz2 hown hgrow hnl hloc
    by_cases hbad : B < 8 ∨ 65536 < B ∨ B % 8 ≠ 0
    · have HB := Lib.hid hbad
      clear hbad
      have HE1 : Hid (ErrLaid w1) := Lib.hid (HG.out.mods.cellOf HE.out (fun f => f))
      refine (rnew_range _ _ _ _ HB.out).mono ?_
      rintro e w ⟨rfl, rfl⟩
      go_wp2_with fail
      refine (new_range _ _ _ _ HB.out).mono ?_
      rintro e w ⟨rfl, rfl⟩
      go_wp2_with fail
      refine (RefP.bare_yes_errno 2 _ HE1.out).mono ?_
      rintro e w2 ⟨rfl, hm2⟩
      have HM2 := Lib.hid hm2
      clear hm2
      go_wp2_with fail
      refine (RefP.bare_yes_errno 2 _ (HM2.out.cellOf HE1.out (fun f => f))).mono ?_
      rintro e w3 ⟨rfl, hm3⟩
      have HM3 := Lib.hid hm3
      clear hm3
      go_wp2
      go_ret
      exact ⟨rfl, (HG.out.mods.trans HM2.out).trans HM3.out⟩
    · have hb8 : 8 ≤ B := by omega
      have hb6 : B ≤ 65536 := by omega
      have HB0 : Hid (B % 8 = 0) := Lib.hid (by omega)
      clear hbad
      by_cases hlim : B < 4 * n0
      · have HE1 : Hid (ErrLaid w1) := Lib.hid (HG.out.mods.cellOf HE.out (fun f => f))
        refine (rnew_limit _ _ _ _ _ _ hb8 hb6 HB0.out hlim (by omega)).mono ?_
        rintro e w ⟨rfl, rfl⟩
        go_wp2_with fail
        refine (new_limit _ _ _ _ _ _ hb8 hb6 HB0.out hlim (by unfold maxLen; omega)).mono ?_
        rintro e w ⟨rfl, rfl⟩
        go_wp2_with fail
        refine (RefP.bare_yes_errno 4 _ HE1.out).mono ?_
        rintro e w2 ⟨rfl, hm2⟩
        have HM2 := Lib.hid hm2
        clear hm2
        go_wp2_with fail
        refine (RefP.bare_yes_errno 4 _ (HM2.out.cellOf HE1.out (fun f => f))).mono ?_
        rintro e w3 ⟨rfl, hm3⟩
        have HM3 := Lib.hid hm3
        clear hm3
        go_wp2
        go_ret
        exact ⟨rfl, (HG.out.mods.trans HM2.out).trans HM3.out⟩
      · obtain ⟨Bn, rfl⟩ := Int.eq_ofNat_of_zero_le (show 0 ≤ B by omega)
        have HBF : Hid (8 ≤ Bn ∧ Bn ≤ 65536 ∧ Bn % 8 = 0 ∧ 4 * ws.length ≤ Bn) := Lib.hid (by have h1 := HB0.out; have h2 := HN0.out; omega)
        clear hlim
        refine (rnew_made _ va vm vc ws l Bn w1 HBF.out.1 HBF.out.2.1 HBF.out.2.2.1 (WordsAt.mods HW.out HG.out.mods) HBF.out.2.2.2 HG.out.ints (fun k hk => (HG.out.own k hk).2) (by have := HN0.out; omega)).mono ?_
        rintro e w2 ⟨br, rfl, Or, hr, hor, hm2⟩
        have HR := Lib.hid hr
        have HOR := Lib.hid hor
        have HM2 := Lib.hid hm2
        clear hr hor hm2
        go_wp2_with fail
        refine (new_made _ _ ws l Bn w2 HBF.out.1 HBF.out.2.1 HBF.out.2.2.1 (WordsAt.mods HW.out (HG.out.mods.trans HM2.out)) HBF.out.2.2.2 (HL.out.mods (HG.out.mods.trans HM2.out) (fun _ _ f => f)) (by have := HN2.out; omega) HNIL2.out).mono ?_
        rintro e w3 ⟨b, rfl, Op, hp, hop, hm3⟩
        have HBOTH : Hid (Both W w3 b br 60 (Mac.new ws Bn l) (Mac.new ws Bn l)) := Lib.hid (both_new HG.out HR.out HOR.out HM2.out hp hop hm3)
        have HFIT : Hid (Fit (Mac.new ws Bn l)) := Lib.hid (fit_new ws l Bn HBF.out.2.1 HL64.out)
        have HM3 : Hid (Mods None W w3) := Lib.hid ((HG.out.mods.trans HM2.out).trans hm3)
        clear hp hop hm3
        go_wp2_with fail
        refine (RefP.bare_yes_nil _ (HM3.out.cellOf HE.out (fun f => f))).mono ?_
        rintro e w4 ⟨rfl, hm4⟩
        have HB4 := Lib.hid (HBOTH.out.none hm4)
        clear hm4
        obtain ⟨M0, hM0⟩ : ∃ M0, M0 = Mac.new ws Bn l := ⟨_, rfl⟩
        rw [← hM0] at HB4 HFIT
        clear hM0
        go_wp2_with fail
        go_loopw [15] (fun v wr => ∃ (i : Nat) (M : Mac), i ≤ 60 ∧ v = .int .i64 i ∧ Hid (Both W wr b br (60 + i) M M) ∧ Hid (Fit M)) (fun v _ => (60 - intOf v).toNat)
        case atStart => exact ⟨0, M0, by omega, rfl, HB4, HFIT⟩
        case round =>
          obtain ⟨i, M, hi, rfl, hb, hft⟩ := hrel
          have HK : Hid (wrap64 ((IntKind.u64.wrap s).tmod 60) < 60) := Lib.hid (by
            have h : (IntKind.u64.wrap s).tmod 60 = (IntKind.u64.wrap s) % 60 := by rw [IntKind.wrap_u64]; exact Int.tmod_eq_emod_of_nonneg (by omega)
            rw [h]; unfold wrap64; omega)
          by_cases hlt : (i : Int) < wrap64 ((IntKind.u64.wrap s).tmod 60)
          · go_wp2_with fail
            refine (both_stepP hb.out HF.out).mono ?_
            rintro e w5 ⟨rfl, h5⟩
            have HB5 := Lib.hid h5
            clear h5
            go_wp2_with fail
            refine (both_stepR HB5.out hft.out (by omega)).mono ?_
            rintro e w6 ⟨rfl, h6⟩
            have HB6 := Lib.hid h6
            clear h6
            go_wp2_with fail
            refine (both_same HB6.out).mono ?_
            rintro e w7 ⟨rfl, h7⟩
            have HB7 := Lib.hid h7
            clear h7
            go_wp2
            go_roundw
            case rel => exact ⟨i + 1, M.step, by have := HK.out; omega, by go_num, HB7, Lib.hid (fit_step hft.out)⟩
            case measure => have := HK.out; simp [intOf]; omega
          · have HB5 : Hid (Both W wr b br 120 M M) := Lib.hid (hb.out.mono (by omega))
            clear hb
            go_wp2_with fail
            go_loopw [16] (fun v wq => ∃ (j : Nat) (M : Mac), j ≤ n4 ∧ v = .int .i64 j ∧ Hid (Both W wq b br (120 + j) M M) ∧ Hid (Fit M)) (fun v _ => (n4 - intOf v).toNat)
            case atStart => exact ⟨0, M, Nat.zero_le _, rfl, HB5, hft⟩
            case round =>
              obtain ⟨j, M2, hj, rfl, hb2, hft2⟩ := hrel
              have HALL : Hid (Mods None W wr) := Lib.hid (by obtain ⟨Op, Or, h⟩ := hb2.out; exact h.mods)
              by_cases hjl : j < n4
              · have hx := getD_some (l := ats) (i := j) (by rw [← HN4.out]; exact hjl)
                obtain ⟨x, hxe⟩ : ∃ x, x = ats.getD j 0 := ⟨_, rfl⟩
                rw [← hxe] at hx
                obtain ⟨g, o, he, hc⟩ := HC4.out j x hx
                have hc' := HALL.out.cellOf hc (fun f => f)
                have hx64 : I64 x := HA64.out x (List.mem_of_getElem? hx)
                obtain ⟨v, ev, er, hby, hv64, hlr, hlp, er2, e2, _, hby2, hst⟩ := both_load hb2.out hx64
                obtain ⟨M3, hfm, hs1, hs2⟩ := hst (wrap64 (v + j)) (I64.wrap _)
                have H1 := Lib.hid hby
                have H2 := Lib.hid hlr
                have H3 := Lib.hid hlp
                have H4 := Lib.hid hby2
                have H5 := Lib.hid hs1
                have H6 := Lib.hid hs2
                have H7 := Lib.hid hfm
                subst he
                clear hc hx hxe hx64 hby hv64 hlr hlp hby2 hst hfm hs1 hs2
                go_wp2_with fail
                refine H2.out.mono ?_
                rintro e w' ⟨rfl, rfl⟩
                go_wp2_with fail
                refine H3.out.mono ?_
                rintro e w' ⟨rfl, rfl⟩
                go_wp2_with fail
                refine (H1.out _ (HALL.out.cellOf HE.out (fun f => f))).mono ?_
                rintro e w5 ⟨rfl, hm5⟩
                have HM5 := Lib.hid hm5
                clear hm5
                go_wp2_with fail
                refine (H5.out _ (120 + j) (by omega) (hb2.out.none HM5.out)).mono ?_
                rintro e w6 ⟨rfl, h6⟩
                have HB6 := Lib.hid h6
                clear h6
                go_wp2_with fail
                refine (H6.out _ (120 + j) (by omega) HB6.out).mono ?_
                rintro e w7 ⟨rfl, h7⟩
                have HB7 := Lib.hid h7
                clear h7
                go_wp2_with fail
                refine (H4.out _ (by obtain ⟨Op, Or, h⟩ := HB7.out; exact h.mods.cellOf HE.out (fun f => f))).mono ?_
                rintro e w8 ⟨rfl, hm8⟩
                have HB8 := Lib.hid (HB7.out.none hm8)
                clear hm8
                go_wp2
                go_roundw
                case rel => exact ⟨j + 1, M3, by omega, by go_num, HB8, Lib.hid (H7.out hft2.out)⟩
                case measure => simp [intOf]; omega
              · obtain rfl : j = n4 := by omega
                go_wp2_with fail
                refine (both_runP hb2.out HF.out).mono ?_
                rintro e w5 ⟨ua, um, uc, rfl, hi1, hmany, Op5, Or5, hb5, hno⟩
                have I1 := Lib.hid hi1
                have IM := Lib.hid hmany
                have HB5 := Lib.hid hb5
                have HNO := Lib.hid hno
                clear hi1 hmany hb5 hno
                go_wp2_with fail
                refine (both_runR HB5.out hft2.out (by omega) I1.out HNO.out).mono ?_
                rintro e w6 ⟨ta, tm, tc, rfl, hi2, hi3, hb6⟩
                have I2 := Lib.hid hi2
                have I3 := Lib.hid hi3
                have HB6 := Lib.hid hb6
                clear hi2 hi3 hb6
                go_wp2_with fail
                refine (same_end _ _ _ _ _ _ _ _ (M2.run 300).out _ I3.out I2.out IM.out).mono ?_
                rintro e w7 ⟨rfl, hm7⟩
                have HB7 := Lib.hid (HB6.out.none hm7)
                clear hm7
                go_wp2_with fail
                refine (both_same HB7.out).mono ?_
                rintro e w8 ⟨rfl, h8⟩
                have HB8 := Lib.hid h8
                clear h8
                go_wp2
                go_ret
                exact ⟨rfl, by obtain ⟨Op, Or, h⟩ := HB8.out; exact h.mods⟩
end Go.Proofs.YtgeajgdddjjjnaaDoor.RMachP
namespace Go.Proofs.YtgeajgdddjjjnaaDoor.machineDoes
open Go.ChangeShapes Go.WideShapes Go.ChangeAt Go.RowKit
set_option linter.unusedVariables false
set_option linter.unusedSimpArgs false

theorem own : ownKnob Tryd.prog.godebug = none := by kernel_rfl
set_option maxRecDepth 100000 in
theorem lifted (os : Os) (started : os.Started) (H : Type) (enc : TypeId × Value → H) :
    ReturnsInHanded {} Tryd.checked os 8 .any (fun w args => (Rows.machineDoesSpec.pre enc Tryd.prog Tryd.f8 [] false w args ∧ laidMetH Tryd.prog ErrP.both w) ∧ sizedMet enc Tryd.prog Tryd.f8 (OpenSpec.ofChange Rows.machineDoesSpec) false w args)
      (Rows.machineDoesSpec.post enc Tryd.prog Tryd.f8 false true false false) := by
  refine returnsInHanded_of_change_and (C := Tryd.checked) (X := fun w _ => laidMetH Tryd.prog ErrP.both w) (fun _ _ _ hh h => h.of_heap hh) own started (by kernel_rfl) Tryd.func8
    (ChangeSpec.witness_shaped (enc := enc) (C := Tryd.checked) (os := os) (X := fun w _ => laidMetH Tryd.prog ErrP.both w) false (World.doorLaid Tryd.prog 52 os) #[.slice none 0 0, .int .i64 0, .slice none 0 0, .int .i64 0, .slice none 0 0] 8 rfl (World.shaped_of_RefB (by kernel_rfl) (by kernel_rfl)) (by kernel_rfl) (by kernel_rfl) (by kernel_rfl) (ErrP.both_met os _ _)) ?_
  intro W base args ds gs before hval0 hW _ _ hL _
  have hval : ∀ (j : Nat) t v, Tryd.f8.params[j]? = some t → args[j]? = some v → Value.okWide Tryd.prog W .any base t v := hval0
  have hW' := hW
  obtain ⟨p, q, hA0, hV, rfl, hfz, hnd⟩ := hW
  have hA : DataW.TrodAll enc Tryd.prog W 0 (fun _ => true) true Tryd.f8.params.toList args.toList ds p := hA0
  rw [Tryd.params8] at hA hval
  obtain ⟨v0, vs0, d0, ds0, p0, q0, hargs, rfl, rfl, h0, r0⟩ := trodAll_cons hA
  obtain ⟨v1, vs1, d1, ds1, p1, q1, rfl, rfl, rfl, h1, r1⟩ := trodAll_cons r0
  obtain ⟨v2, vs2, d2, ds2, p2, q2, rfl, rfl, rfl, h2, r2⟩ := trodAll_cons r1
  obtain ⟨v3, vs3, d3, ds3, p3, q3, rfl, rfl, rfl, h3, r3⟩ := trodAll_cons r2
  obtain ⟨v4, vs4, d4, ds4, p4, q4, rfl, rfl, rfl, h4, r4⟩ := trodAll_cons r3
  obtain ⟨rfl, rfl, rfl⟩ := trodAll_nil r4
  obtain rfl : args = #[v0, v1, v2, v3, v4] := by cases args; simp_all
  obtain ⟨rfl, rfl⟩ := trodVars_none hV
  obtain ⟨a1, rfl, rfl, rfl, w1⟩ := open_int Tryd.underlying3 (hval 1 3 v1 rfl rfl) h1
  obtain ⟨a3, rfl, rfl, rfl, w3⟩ := open_int Tryd.underlying3 (hval 3 3 v3 rfl rfl) h3
  obtain ⟨x0, n0, c0, ws, e0, hn0, hm0, hw0⟩ := MachP.words_open (hval 0 40 v0 rfl rfl) h0
  obtain ⟨x2, n2, c2, l, e2, hn2, hm2, hi2, hnil, h64⟩ := MachP.ints_open (hval 2 45 v2 rfl rfl) h2
  obtain ⟨x4, n4, c4, ats, e4, hn4, hm4, hi4, _, ha64⟩ := MachP.ints_open (hval 4 45 v4 rfl rfl) h4
  clear hA0 hval0
  simp only [List.append_nil] at hW'
  obtain ⟨hE, hF⟩ := ErrP.both_laid hL
  have hwalk : Calls Tryd.prog 8 #[v0, .int .i64 a1, v2, .int .i64 a3, v4] W fun e W' => e = .returned (.bool true) ∧ Wo.Mods Wo.None W W' := by
    rw [e0, e2, e4]
    by_cases hs : n0 ≤ 60 ∧ n2 ≤ 20 ∧ n4 ≤ 20
    · exact RMachP.does_walk x0 x2 x4 n0 c0 n2 c2 n4 c4 a1 a3 ws l ats W (e0 ▸ hw0) (e2 ▸ hi2) (e4 ▸ hi4) (fun h => hnil n2 c2 (by rw [e2, h])) h64 ha64 hF hE hs.1 hs.2.1 hs.2.2
    · exact RMachP.does_far x0 x2 x4 n0 c0 n2 c2 n4 c4 a1 a3 W hm0 hm2 hm4 (by omega)
  refine hwalk.mono fun e W' ⟨he, hg⟩ => ?_
  subst he
  have hlt : ∀ p ∈ p0 ++ (p2 ++ p4), p.block < W.heap.size := fun p hp => hW'.lt p (by simpa using hp)
  exact ⟨_, rfl, Wo.post_of_mods (pa := p0 ++ ([] ++ (p2 ++ ([] ++ (p4 ++ []))))) (pv := []) hW' (fun _ _ _ => (trodAll_cons_mk (shut_bool Tryd.underlying4 _) trodAll_mk0))
    (fun sp hsp => (trodAll_cons_mk (WideElems.Trod_stays MachP.laid_out (by kernel_rfl) (of_decide_eq_true (by kernel_rfl)) h0 (fun p hp => hg.same (hlt p (by simp [hp]))) (fun p hp => hsp p (by simp [hp])))
      (trodAll_cons_mk (shut_int Tryd.underlying3 w1)
      (trodAll_cons_mk (WideElems.Trod_stays MachP.laid_out (by kernel_rfl) (of_decide_eq_true (by kernel_rfl)) h2 (fun p hp => hg.same (hlt p (by simp [hp]))) (fun p hp => hsp p (by simp [hp])))
        (trodAll_cons_mk (shut_int Tryd.underlying3 w3)
        (trodAll_cons_mk (WideElems.Trod_stays MachP.laid_out (by kernel_rfl) (of_decide_eq_true (by kernel_rfl)) h4 (fun p hp => hg.same (hlt p (by simp [hp]))) (fun p hp => hsp p (by simp [hp]))) trodAll_mk0)))))) (fun _ _ => rfl) (by simp)
    hg (ok_one (by kernel_rfl) rfl (okWide_bool_mk Tryd.underlying4 _))⟩

theorem row_holds : Rows.MachineDoesSaid :=
  OpenClaim.holds_of_wide 8 Tryd.f8 rfl rfl rfl rfl rfl rfl rfl ⟨rfl, rfl, rfl, rfl, rfl⟩ rfl rfl rfl rfl rfl (by kernel_rfl) Tryd.func8 (by kernel_rfl)
    (of_decide_eq_true (by kernel_rfl)) (by unfold Func.isWrapper; first | (rw [if_pos (by decide +kernel)]; kernel_rfl) | (rw [if_neg (by decide +kernel)]; exact ⟨rfl, rfl⟩))
    (fun os started H enc _ => lifted os started H enc)

/-- The statement. -/
theorem proved : Rows.MachineDoesCardSaid :=
  Claim7.holds_tied_plain_at .later [] [.handle, .data] true (true, "16b23bfcbc91188f8ae89e15362d2a2bde54692caea053a7aae17fdc1fb9cf2f") true
    row_holds (fun _ h => by cases h) (by kernel_rfl) (fun _ h => by cases h) machineDoes_row_tie rfl ⟨rfl, rfl⟩ (by kernel_rfl) rfl
    (fun f fn hf hfn => by
      obtain rfl : f = 8 := Option.some.inj ((show Tryd.prog.funcNamed "bloomery/bloomerylaw.MachineDoes" = some 8 by kernel_rfl).symm.trans hf) |>.symm
      obtain rfl : fn = Tryd.f8 := (Option.some.inj (Tryd.func8.symm.trans hfn)).symm
      exact ⟨by kernel_rfl, fun j t ht => by
        rw [Tryd.params8] at ht
        have hm : t ∈ [40, 3, 45, 3, 45] := by simpa using Array.mem_of_getElem? ht
        have hall : ([40, 3, 45, 3, 45].all fun u => !Tryd.prog.wantsStandIn u) = true := by kernel_rfl
        exact (show Tryd.prog.wantsStandIn t = false by simpa using List.all_eq_true.1 hall t hm)⟩)
    (by kernel_rfl)
#print axioms proved
end Go.Proofs.YtgeajgdddjjjnaaDoor.machineDoes

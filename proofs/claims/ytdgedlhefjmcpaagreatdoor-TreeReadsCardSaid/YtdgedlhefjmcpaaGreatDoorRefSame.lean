/- Two expressions, statements, functions that are read of one text are the same to the law. What is wrong, at its place, to the law. No conditions beyond the memory's. -/
import Derived.Test.YtdgedlhefjmcpaaGreatDoorRefParse
import Derived.Test.YtdgedlhefjmcpaaGreatDoorTreeWr
import Derived.Test.YtdgedlhefjmcpaaGreatDoorErrIs
import Derived.Deep.QuietTactic
import Derived.BigQuiet
import Derived.Deep.DeepCutAuto
namespace Go.Proofs.YtdgedlhefjmcpaaGreatDoor.TreeP.R
open Go.RowKit Go.Proofs.YtdgedlhefjmcpaaGreatDoor.Wo Go.Proofs.YtdgedlhefjmcpaaGreatDoor.TreeP
set_option linter.unusedVariables false
set_option linter.unusedSimpArgs false
def SameIs (u v : Value) (w : World) : Prop := Calls Tryz.prog 80 #[u, v] w fun e w' => e = .returned (.bool true) ∧ Mods None w w'
set_option maxRecDepth 100000 in
theorem same_nil (w : World) : SameIs nilP nilP w := by
  unfold SameIs nilP
  go_enter Tryz.func80, Tryz.ntmps80
  go_wp2
  go_ret
  exact ⟨rfl, (Mods.refl _ _)⟩
theorem row_full {W : World} {e : TypeId} {n : Nat} {v : Value} {vs : List Value} (h : W.ownsRow 0 e 1 v n vs) (hn : n ≠ 0) : ∃ q c, v = .slice (some ⟨q, 0, none⟩) n c ∧ n ≤ c ∧ c ≤ 9223372036854775807 ∧ q < W.heap.size ∧ ∀ (i : Nat) (y : Value), vs[i]? = some y → W.cell? ⟨q, i, none⟩ = some y := by
  rcases h.2 with ⟨hv, h0⟩ | ⟨q, cap, cur, rfl, _, _, h3, h4, _⟩
  · exact absurd h0 hn
  · refine ⟨q, cap, rfl, h3, by unfold maxLen at h4; omega, (h.lt q rfl).2, fun i y hy => ?_⟩
    have := h.cells (g := q) rfl i y hy
    cases i with
    | zero => exact this
    | succ i => simpa [Addr.add] using this
set_option maxRecDepth 100000 in
set_option maxHeartbeats 3200000 in
theorem same_node0 {W : World} {g g' : Nat} {c a n : Int} {s op : List UInt8} {x x' y y' : Option Addr} {p p' : Value} {k : Nat} {vs vs' : List Value}
    (hb : Blk W g (cells8 c a n s op (.pointer x) (.pointer y) p) 195) (hb' : Blk W g' (cells8 c a n s op (.pointer x') (.pointer y') p') 195)
    (hr : W.ownsRow 0 141 1 p k vs) (hr' : W.ownsRow 0 141 1 p' k vs') (hk : k = 0)
    (hx : ∀ w, Mods None W w → SameIs (.pointer x) (.pointer x') w) (hy : ∀ w, Mods None W w → SameIs (.pointer y) (.pointer y') w)
    (ha : ∀ i, i < k → ∃ u u', vs[i]? = some u ∧ vs'[i]? = some u' ∧ (∃ o, u = .pointer o) ∧ (∃ o, u' = .pointer o) ∧ ∀ w, Mods None W w → SameIs u u' w) :
    SameIs (.pointer (some ⟨g, 0, none⟩)) (.pointer (some ⟨g', 0, none⟩)) W := by
  subst hk
  obtain ⟨pa, pc, rfl⟩ := lex_form hr
  obtain ⟨qa, qc, rfl⟩ := lex_form hr'
  have c0 := hb.cell (i := 0) rfl
  have d0 := hb'.cell (i := 0) rfl
  have c1 := hb.cell (i := 1) rfl
  have d1 := hb'.cell (i := 1) rfl
  have c2 := hb.cell (i := 2) rfl
  have d2 := hb'.cell (i := 2) rfl
  have c3 := hb.cell (i := 3) rfl
  have d3 := hb'.cell (i := 3) rfl
  have c4 := hb.cell (i := 4) rfl
  have d4 := hb'.cell (i := 4) rfl
  have c5 := hb.cell (i := 5) rfl
  have d5 := hb'.cell (i := 5) rfl
  have c6 := hb.cell (i := 6) rfl
  have d6 := hb'.cell (i := 6) rfl
  have c7 := hb.cell (i := 7) rfl
  have d7 := hb'.cell (i := 7) rfl
  unfold str at *
  have HX := Lib.hid hx
  have HY := Lib.hid hy
  unfold SameIs
  clear hb hb' hr hr' hx hy
  go_enter Tryz.func80, Tryz.ntmps80
  go_wp2_with fail
  go_quiet (fail)
  go_wp2_with fail
  go_loopw [5] (fun iv wr => iv = .int .i64 0 ∧ Hid (Mods None W wr)) (fun _ _ => 0)
  case atStart => exact ⟨rfl, Lib.hid (by first | exact Mods.refl _ _ | exact (Mods.refl _ _).drewN _)⟩
  case round =>
    obtain ⟨rfl, HM⟩ := hrel
    have e7 := HM.out.cellOf c7 (fun f => f)
    have e5 := HM.out.cellOf c5 (fun f => f)
    have e6 := HM.out.cellOf c6 (fun f => f)
    have b5 := HM.out.cellOf d5 (fun f => f)
    have b6 := HM.out.cellOf d6 (fun f => f)
    clear c0 c1 c2 c3 c4 c5 c6 c7 d0 d1 d2 d3 d4 d5 d6 d7
    unfold SameIs at HX HY
    go_wp2_with fail
    go_region_held3 (fun w' => Hid (Mods None W w') ∧ w'.cell? ⟨g, 5, none⟩ = some (.pointer x) ∧ w'.cell? ⟨g, 6, none⟩ = some (.pointer y) ∧ w'.cell? ⟨g', 5, none⟩ = some (.pointer x') ∧ w'.cell? ⟨g', 6, none⟩ = some (.pointer y'))
      (first
        | exact ⟨Lib.hid HM.out.drew, e5, e6, b5, b6⟩
        | assumption
        | (go_split_ands; exact ⟨Lib.hid (Mods.trans (Hid.out ‹_›) hmm), hmm.cellOf ‹_› (fun f => f), hmm.cellOf ‹_› (fun f => f), hmm.cellOf ‹_› (fun f => f), hmm.cellOf ‹_› (fun f => f)⟩)
        | (go_split_ands; exact ⟨Lib.hid (Mods.trans (Hid.out ‹_›) hm2), hm2.cellOf ‹_› (fun f => f), hm2.cellOf ‹_› (fun f => f), hm2.cellOf ‹_› (fun f => f), hm2.cellOf ‹_› (fun f => f)⟩))
      ((first
        | (go_at_call_of 80 (Value.pointer x); go_split_ands; refine (HX.out _ (Hid.out ‹Hid (Mods None W _)›)).mono ?_; rintro e w' ⟨rfl, hmm⟩)
        | (go_at_call_of 80 (Value.pointer y); go_split_ands; refine (HY.out _ (Hid.out ‹Hid (Mods None W _)›)).mono ?_; rintro e w2 ⟨rfl, hm2⟩)))
    all_goals
      go_split_ands
      go_wp2
      go_ret
      exact ⟨rfl, Hid.out (by assumption)⟩
set_option maxRecDepth 100000 in
set_option maxHeartbeats 3200000 in
theorem same_node1 {W : World} {g g' : Nat} {c a n : Int} {s op : List UInt8} {x x' y y' : Option Addr} {p p' : Value} {k : Nat} {vs vs' : List Value}
    (hb : Blk W g (cells8 c a n s op (.pointer x) (.pointer y) p) 195) (hb' : Blk W g' (cells8 c a n s op (.pointer x') (.pointer y') p') 195)
    (hr : W.ownsRow 0 141 1 p k vs) (hr' : W.ownsRow 0 141 1 p' k vs') (hk : k ≠ 0)
    (hx : ∀ w, Mods None W w → SameIs (.pointer x) (.pointer x') w) (hy : ∀ w, Mods None W w → SameIs (.pointer y) (.pointer y') w)
    (ha : ∀ i, i < k → ∃ u u', vs[i]? = some u ∧ vs'[i]? = some u' ∧ (∃ o, u = .pointer o) ∧ (∃ o, u' = .pointer o) ∧ ∀ w, Mods None W w → SameIs u u' w) :
    SameIs (.pointer (some ⟨g, 0, none⟩)) (.pointer (some ⟨g', 0, none⟩)) W := by
  obtain ⟨q, pc, rfl, hpc, hpc2, hql, hq⟩ := row_full hr hk
  obtain ⟨q', qc, rfl, hqc, hqc2, hql', hq'⟩ := row_full hr' hk
  have HQ := Lib.hid hq
  have HQ' := Lib.hid hq'
  have HA := Lib.hid ha
  have c0 := hb.cell (i := 0) rfl
  have d0 := hb'.cell (i := 0) rfl
  have c1 := hb.cell (i := 1) rfl
  have d1 := hb'.cell (i := 1) rfl
  have c2 := hb.cell (i := 2) rfl
  have d2 := hb'.cell (i := 2) rfl
  have c3 := hb.cell (i := 3) rfl
  have d3 := hb'.cell (i := 3) rfl
  have c4 := hb.cell (i := 4) rfl
  have d4 := hb'.cell (i := 4) rfl
  have c5 := hb.cell (i := 5) rfl
  have d5 := hb'.cell (i := 5) rfl
  have c6 := hb.cell (i := 6) rfl
  have d6 := hb'.cell (i := 6) rfl
  have c7 := hb.cell (i := 7) rfl
  have d7 := hb'.cell (i := 7) rfl
  clear hq hq' ha
  unfold str at *
  have HX := Lib.hid hx
  have HY := Lib.hid hy
  unfold SameIs
  clear hb hb' hr hr' hx hy
  go_enter Tryz.func80, Tryz.ntmps80
  go_wp2_with fail
  go_quiet (fail)
  go_wp2_with fail
  go_loopw [5] (fun iv wr => ∃ i : Nat, i ≤ k ∧ iv = .int .i64 i ∧ Hid (Mods None W wr)) (fun iv _ => (k - intOf iv).toNat)
  case atStart => exact ⟨0, Nat.zero_le _, rfl, Lib.hid (by first | exact Mods.refl _ _ | exact (Mods.refl _ _).drewN _)⟩
  case round =>
    obtain ⟨i, hi, rfl, HM⟩ := hrel
    have e7 := HM.out.cellOf c7 (fun f => f)
    have b7 := HM.out.cellOf d7 (fun f => f)
    by_cases hik : i < k
    · obtain ⟨u, u', hu, hu', ⟨o, rfl⟩, ⟨o', rfl⟩, hs⟩ := HA.out i hik
      have HS := Lib.hid hs
      unfold SameIs at HS
      have eu := HM.out.cellOf (HQ.out i _ hu) (fun f => f)
      have bu := HM.out.cellOf (HQ'.out i _ hu') (fun f => f)
      have hlt : (i : Int) < (k : Int) := by omega
      clear hs hu hu' c0 c1 c2 c3 c4 c5 c6 c7 d0 d1 d2 d3 d4 d5 d6 d7 HX HY
      go_wp2_with fail
      go_region_held3 (fun w' => Hid (Mods None W w') ∧ w'.cell? ⟨g, 7, none⟩ = some (.slice (some ⟨q, 0, none⟩) k pc) ∧ w'.cell? ⟨g', 7, none⟩ = some (.slice (some ⟨q', 0, none⟩) k qc) ∧ w'.cell? ⟨q, i, none⟩ = some (.pointer o) ∧ w'.cell? ⟨q', i, none⟩ = some (.pointer o'))
        (first
          | exact ⟨Lib.hid HM.out.drew, e7, b7, eu, bu⟩
          | assumption
          | (go_split_ands; exact ⟨Lib.hid (Mods.trans (Hid.out ‹_›) hmm), hmm.cellOf ‹_› (fun f => f), hmm.cellOf ‹_› (fun f => f), hmm.cellOf ‹_› (fun f => f), hmm.cellOf ‹_› (fun f => f)⟩))
        ((go_at_call 80; go_split_ands; refine (HS.out _ (Hid.out ‹Hid (Mods None W _)›)).mono ?_; rintro e w' ⟨rfl, hmm⟩))
      clear e7 b7 eu bu
      go_wp2
      go_roundw
      case rel => exact ⟨i + 1, by omega, by go_num, (by go_split_ands; assumption)⟩
      case measure => simp [intOf]; omega
    have hge : ¬ (i : Int) < (k : Int) := by omega
    have e5 := HM.out.cellOf c5 (fun f => f)
    have e6 := HM.out.cellOf c6 (fun f => f)
    have b5 := HM.out.cellOf d5 (fun f => f)
    have b6 := HM.out.cellOf d6 (fun f => f)
    clear c0 c1 c2 c3 c4 c5 c6 c7 d0 d1 d2 d3 d4 d5 d6 d7
    unfold SameIs at HX HY
    go_wp2_with fail
    go_region_held3 (fun w' => Hid (Mods None W w') ∧ w'.cell? ⟨g, 5, none⟩ = some (.pointer x) ∧ w'.cell? ⟨g, 6, none⟩ = some (.pointer y) ∧ w'.cell? ⟨g', 5, none⟩ = some (.pointer x') ∧ w'.cell? ⟨g', 6, none⟩ = some (.pointer y'))
      (first
        | exact ⟨Lib.hid HM.out.drew, e5, e6, b5, b6⟩
        | assumption
        | (go_split_ands; exact ⟨Lib.hid (Mods.trans (Hid.out ‹_›) hmm), hmm.cellOf ‹_› (fun f => f), hmm.cellOf ‹_› (fun f => f), hmm.cellOf ‹_› (fun f => f), hmm.cellOf ‹_› (fun f => f)⟩)
        | (go_split_ands; exact ⟨Lib.hid (Mods.trans (Hid.out ‹_›) hm2), hm2.cellOf ‹_› (fun f => f), hm2.cellOf ‹_› (fun f => f), hm2.cellOf ‹_› (fun f => f), hm2.cellOf ‹_› (fun f => f)⟩))
      ((first
        | (go_at_call_of 80 (Value.pointer x); go_split_ands; refine (HX.out _ (Hid.out ‹Hid (Mods None W _)›)).mono ?_; rintro e w' ⟨rfl, hmm⟩)
        | (go_at_call_of 80 (Value.pointer y); go_split_ands; refine (HY.out _ (Hid.out ‹Hid (Mods None W _)›)).mono ?_; rintro e w2 ⟨rfl, hm2⟩)))
    all_goals
      go_split_ands
      go_wp2
      go_ret
      exact ⟨rfl, Hid.out (by assumption)⟩
end Go.Proofs.YtdgedlhefjmcpaaGreatDoor.TreeP.R

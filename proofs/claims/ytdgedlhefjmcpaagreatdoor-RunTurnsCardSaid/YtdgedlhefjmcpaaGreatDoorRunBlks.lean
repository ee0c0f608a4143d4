/- The runner goes through a block. Conditions: what it has lies. What a call does behind its body: what was thrown is told, or thrown again. Conditions: what it has lies. How a call's door shuts. Conditions: what it has lies. -/
import Derived.Test.YtdgedlhefjmcpaaGreatDoorRunStm
import Derived.Test.YtdgedlhefjmcpaaGreatDoorChkSt
import Derived.Defers
import Derived.Recover
namespace Go.Proofs.YtdgedlhefjmcpaaGreatDoor.TreeP
open Go.RowKit Go.Proofs.YtdgedlhefjmcpaaGreatDoor.Wo
set_option linter.unusedVariables false
set_option linter.unusedSimpArgs false
theorem goodSs_at {L : List Fn} : {l : List St} → GoodSs L l → (i : Nat) → (x : St) → l[i]? = some x → GoodS L x
  | [], _, i, x, h => by simp at h
  | a :: r, hg, 0, x, h => by
    simp only [GoodSs] at hg
    simp only [List.getElem?_cons_zero, Option.some.injEq] at h
    exact h ▸ hg.1
  | a :: r, hg, i + 1, x, h => by
    simp only [GoodSs] at hg
    exact goodSs_at hg.2 i x (by simpa using h)
/-- A statement in its row. -/
theorem row_cells {w : World} {S : Nat → Prop} {l : List St} {sa : Option Addr} {sc : Nat} {vs : List Value} (hr : RowAt w S 143 7 (.slice sa l.length sc) l.length vs) (hst : StsAt w S l vs) (i : Nat) (hi : i < l.length) :
    ∃ g code a name p q oa on oc ob om od, sa = some ⟨g, 0, none⟩ ∧ w.cell? ⟨g, i * 7, none⟩ = some (.int .i64 code) ∧ w.cell? ⟨g, i * 7 + 1, none⟩ = some (.int .i64 a) ∧ w.cell? ⟨g, i * 7 + 2, none⟩ = some (.string name) ∧ w.cell? ⟨g, i * 7 + 3, none⟩ = some (.pointer p) ∧ w.cell? ⟨g, i * 7 + 4, none⟩ = some (.pointer q) ∧ w.cell? ⟨g, i * 7 + 5, none⟩ = some (.slice oa on oc) ∧ w.cell? ⟨g, i * 7 + 6, none⟩ = some (.slice ob om od) ∧
      StAt w S l[i] [.int .i64 code, .int .i64 a, .string name, .pointer p, .pointer q, .slice oa on oc, .slice ob om od] := by
  obtain ⟨sa2, sc2, he, hsc, hsm, hscell⟩ := ownsRow_slice hr.1
  simp only [Value.slice.injEq] at he
  obtain ⟨rfl, -, rfl⟩ := he
  obtain ⟨cs, h1, h2⟩ := hst.get i l[i] (List.getElem?_eq_getElem hi)
  obtain ⟨code, a, name, p, q, oa, on, oc, ob, om, od, rfl⟩ := h1.shape
  have cell : ∀ j u, j < 7 → ([.int .i64 code, .int .i64 a, .string name, .pointer p, .pointer q, .slice oa on oc, .slice ob om od] : List Value)[j]? = some u → ∃ g, sa = some ⟨g, 0, none⟩ ∧ w.cell? ⟨g, i * 7 + j, none⟩ = some u := by
    intro j u hj hu
    obtain ⟨g, e1, e2, e3⟩ := hscell (i * 7 + j) u (by rw [h2 j hj]; exact hu)
    exact ⟨g, e1, e3⟩
  obtain ⟨g, e0, k0⟩ := cell 0 _ (by omega) rfl
  have cell2 : ∀ j u, j < 7 → ([.int .i64 code, .int .i64 a, .string name, .pointer p, .pointer q, .slice oa on oc, .slice ob om od] : List Value)[j]? = some u → w.cell? ⟨g, i * 7 + j, none⟩ = some u := by
    intro j u hj hu
    obtain ⟨g', e1, e2⟩ := cell j u hj hu
    rw [e0] at e1
    obtain rfl : g = g' := by simpa using e1
    exact e2
  exact ⟨g, code, a, name, p, q, oa, on, oc, ob, om, od, e0, k0, cell2 1 _ (by omega) rfl, cell2 2 _ (by omega) rfl, cell2 3 _ (by omega) rfl, cell2 4 _ (by omega) rfl, cell2 5 _ (by omega) rfl, cell2 6 _ (by omega) rfl, h1⟩
set_option maxRecDepth 100000 in
set_option maxHeartbeats 1000000 in
theorem blk_any {L : List Fn} {f : Nat} (ih : ∀ k, k < f → StC L k) : BlkC L f := by
  intro l lv vs b mb P M A s F fm n N W r h hF hn hN hg hrow hst hr
  have HX : Hid (blockR L f s F (l.drop 0) = some r) := Lib.hid hr
  obtain ⟨sa, sc, rfl⟩ := lex_form hrow.1
  have hcap : l.length ≤ sc ∧ sc ≤ maxLen := by
    obtain ⟨sa2, sc2, he, hsc, hsm, -⟩ := ownsRow_slice hrow.1
    simp only [Value.slice.injEq] at he
    obtain ⟨-, -, rfl⟩ := he
    exact ⟨hsc, hsm⟩
  have HRC := Lib.hid (fun (w : World) (hm : Mods (fun k => ¬ P k) W w) => row_cells (hrow.mods hm (fun _ _ k => k)) (StsAt.modsTo hm (fun _ _ k => k) _ _ hst))
  have HG := Lib.hid hg
  have HIH := Lib.hid ih
  have HNN := Lib.hid hN
  have HN1 := Lib.hid hn
  have HR := Lib.hid h
  have HR0 := Lib.hid h
  have HF := Lib.hid hF
  have HFM : Hid (¬ P fm) := Lib.hid (by obtain ⟨_, _, _, k, _⟩ := hF; exact k)
  have HE := Lib.hid (Ext.refl (· = fm) M W)
  have HA := Lib.hid (List.prefix_refl A)
  obtain ⟨nl, hnl⟩ : ∃ nl, nl = l.length := ⟨_, rfl⟩
  have HNL := Lib.hid hnl
  rw [← hnl] at hcap
  obtain ⟨hc1, hc2⟩ := hcap
  unfold maxLen at hc2
  rw [← hnl]
  clear h hF hn hN hg hrow hst hr ih hnl
  go_enter Tryz.func83, Tryz.ntmps83
  go_wp2_with fail
  go_loopw [7, 10] (fun _ iv wr => ∃ (k i : Nat) (s' : RS) (F' : Fr) (M' : Nat → Prop) (A' : List (Nat × Nat)) (n' : Nat), k ≤ f ∧ i ≤ nl ∧ iv = .int .i64 i ∧ Hid (blockR L k s' F' (l.drop i) = some r) ∧ Hid (RAt wr b mb L P M' A' s') ∧ Hid (FrAt wr P M' A' fm n' F') ∧ Hid (n' + s'.fuel ≤ N) ∧ Hid (Ext (· = fm) M M' W wr) ∧ Hid (A <+: A')) (fun _ iv _ => (nl - intOf iv).toNat)
  case atStart => exact ⟨f, 0, s, F, M, A, n, Nat.le_refl _, Nat.zero_le _, rfl, HX, HR, HF, HN1, HE, HA⟩
  case round =>
    clear HX HR HF HN1 HE HA
    obtain ⟨k, i, s2, F2, M2, A2, n2, hk, hi, rfl, HX, HR2, HF2, HN2, HE2, HA2⟩ := hrel
    cases k with
    | zero => simp only [blockR] at HX; cases HX.out
    | succ k =>
    by_cases hlt : i < nl
    · have hil : i < l.length := by have := HNL.out; omega
      have hmP : Mods (fun k => ¬ P k) W wr := HE2.out.mods.mono fun k _ hk => hk.elim (fun e => by rw [e]; exact HFM.out) (HR0.out.off k)
      obtain ⟨g, code, a, name, p, q, oa, on, oc, ob, om, od, rfl, k0, k1, k2, k3, k4, k5, k6, hs⟩ := HRC.out wr hmP i hil
      have hpi : (i : Int) < (nl : Int) := by omega
      have HX2 : Hid (bindR (stmtR L k s2 F2 l[i]) (fun F s => blockR L k s F (l.drop (i + 1))) = some r) := Lib.hid (by
        rw [← HX.out, List.drop_eq_getElem_cons hil]
        simp only [blockR])
      obtain ⟨W1, hW1⟩ : ∃ W1, W1 = wr.alloc (.cells #[.int .i64 code, .int .i64 a, .string name, .pointer p, .pointer q, .slice oa on oc, .slice ob om od] 143) := ⟨_, rfl⟩
      have HMA : Mods None wr W1 := by rw [hW1]; exact (Mods.refl _ _).alloc _
      have HC := Lib.hid (fun y (hy : stmtR L k s2 F2 l[i] = some y) => HIH.out k (by omega) l[i] _ b mb P M2 A2 s2 F2 fm n2 N W1 y (HR2.out.quiet HMA) (HF2.out.ext (Ext.quiet HMA) (List.prefix_refl _)) HN2.out HNN.out (goodSs_at HG.out i _ (List.getElem?_eq_getElem hil)) (StAt.modsTo (HMA.mono fun _ _ f => f.elim) (fun _ _ k => k) _ _ hs) hy)
      have HE3 := Lib.hid (HE2.out.trans (Ext.quiet HMA))
      have HKF := Lib.hid hk
      have hi7 : (i : Int) < 9223372036854775807 := by omega
      clear hs HX hmP HMA hk
      go_wp2_with fail
      rw [← hW1]
      clear hW1 k0 k1 k2 k3 k4 k5 k6
      go_at_call 113
      refine rbindF_of HE3 HA2 HX2 HC.out ?_ ?_
      · rintro g s' rfl older w H
        obtain ⟨M', A', k1, k2, k3⟩ := H.out
        go_wp2
        exact ⟨rfl, ⟨older, rfl⟩, M', A', k1, k2, k3⟩
      · rintro G s3 - HX3 w3 M3 A3 n3 HF3 HN3 HR3 HE4 HE5 HA4 HA5
        clear HX2 HC
        go_wp2_with fail
        exact ⟨⟨k, i + 1, s3, G, M3, A3, n3, by have := HKF.out; omega, by omega, by go_num, HX3, HR3, HF3, HN3, HE5, HA5⟩, by simp [intOf]; omega⟩
    · obtain rfl : i = nl := by omega
      have hpi : ¬ (i : Int) < (i : Int) := by omega
      have hd : l.drop i = [] := by rw [HNL.out]; exact List.drop_length
      have hx := HX.out
      rw [hd] at hx
      simp only [blockR] at hx
      obtain rfl := (Option.some.inj hx).symm
      clear hx hd
      go_wp2_with fail
      go_end0
      exact ⟨rfl, M2, A2, n2, HF2.out, HN2.out, HR2.out, HE2.out, HA2.out⟩
theorem stmt_zero (L : List Fn) : StC L 0 := by
  intro x cs b mb P M A s F fm n N W r h hF hn hN hg hs hr
  simp only [stmtR] at hr
  cases hr
theorem stmt_any {L : List Fn} {f : Nat} (ihe : ∀ k, k ≤ f → EvC L k) (ihb : ∀ k, k ≤ f → BlkC L k) : StC L (f + 1) := by
  intro x cs b mb P M A s F fm n N W r h hF hn hN hg hs hr
  have ie := ihe f (Nat.le_refl _)
  have ib := ihb f (Nat.le_refl _)
  cases x with
  | var a x v => exact rst_var ie a x v cs b mb P M A s F fm n N W r h hF hn hN hg hs hr
  | set a x v => exact rst_set ie a x v cs b mb P M A s F fm n N W r h hF hn hN hg hs hr
  | put a x i v => exact rst_put ie a x i v cs b mb P M A s F fm n N W r h hF hn hN hg hs hr
  | cond a v t e => exact rst_cond ie ib a v t e cs b mb P M A s F fm n N W r h hF hn hN hg hs hr
  | loop a v t => exact rst_loop ihe ihb a v t cs b mb P M A s F fm n N W r h hF hn hN hg hs hr
  | ret a v => exact rst_ret ie a v cs b mb P M A s F fm n N W r h hF hn hN hg hs hr
  | print a v => exact rst_print ie a v cs b mb P M A s F fm n N W r h hF hn hN hg hs hr
  | call a v => exact rst_call ie a v cs b mb P M A s F fm n N W r h hF hn hN hg hs hr
end Go.Proofs.YtdgedlhefjmcpaaGreatDoor.TreeP
namespace Go.Proofs.YtdgedlhefjmcpaaGreatDoor.TreeP
open Go.RowKit Go.Proofs.YtdgedlhefjmcpaaGreatDoor.Wo
set_option linter.unusedVariables false
set_option linter.unusedSimpArgs false
set_option maxRecDepth 100000 in
theorem caught_idle (q6 q3 b : Nat) (k : Int) (w : World) (h3 : w.cell? ⟨q3, 0, none⟩ = some (.pointer (some ⟨b, 0, none⟩))) (hc : w.cell? ⟨b, 3, none⟩ = some (.int .i64 k)) (fz : w.frozen? ⟨b, 3, none⟩ = false) (hk : 1 ≤ k) (hk2 : k ≤ 40) :
    CallsD Tryz.prog 82 #[.pointer (some ⟨q6, 0, none⟩), .pointer (some ⟨q3, 0, none⟩)] .returning w fun e u' w' => e = .returned (.tuple #[]) ∧ u' = .returning ∧ w' = w.setCell ⟨b, 3, none⟩ (.int .i64 (k - 1)) := by
  refine callsD_of_wpS Tryz.func82 rfl fun c₀ cs hu => ?_
  apply wpS_seq
  apply wpS_seq
  apply wpS_region
  simp [wpOpsS, go_sem, recoverD, hu, Tryz.ntmps82, Exit.thenS]
  refine wpS_of_wp ?_
  rw [show (#[Value.pointer (some ⟨q6, 0, none⟩), .pointer (some ⟨q3, 0, none⟩)] ++ ((Array.replicate 23 undef).setIfInBounds 3 (.nilIface)).setIfInBounds 0 (.nilIface) : Array Value) = #[.pointer (some ⟨q6, 0, none⟩), .pointer (some ⟨q3, 0, none⟩), .nilIface, undef, undef, .nilIface, undef, undef, undef, undef, undef, undef, undef, undef, undef, undef, undef, undef, undef, undef, undef, undef, undef, undef, undef] from by kernel_rfl]
  go_wp2
  simp only [Exit.thenS]
  refine wpS_of_wp ?_
  go_wp2
  cases c₀
  simp_all [bodyPostS, results, Tryz.results82]
theorem is_returned (v : Value) (w : World) : Sem.run Tryz.prog (Instr.typeAssert (.iface 160 v) 20 160 true) w = .ok (.tuple #[v, .bool true]) w := by
  simp [Instr.typeAssert, run_underlying Tryz.underlying160]
theorem isnt_returned (v : Value) (w : World) : Sem.run Tryz.prog (Instr.typeAssert (.iface 107 v) 20 160 true) w = .ok (.tuple #[.agg #[.int .i64 0], .bool false]) w := by
  kernel_rfl
set_option maxRecDepth 100000 in
theorem caught_ret (q6 q3 b : Nat) (k n : Int) (u : Value) (older : List PanicEntry) (w : World) (h6 : w.cell? ⟨q6, 0, none⟩ = some u) (f6 : w.frozen? ⟨q6, 0, none⟩ = false) (h3 : w.cell? ⟨q3, 0, none⟩ = some (.pointer (some ⟨b, 0, none⟩))) (hc : w.cell? ⟨b, 3, none⟩ = some (.int .i64 k)) (fz : w.frozen? ⟨b, 3, none⟩ = false) (hk : 1 ≤ k) (hk2 : k ≤ 40) (h36 : q3 ≠ q6) (hb6 : b ≠ q6) :
    CallsD Tryz.prog 82 #[.pointer (some ⟨q6, 0, none⟩), .pointer (some ⟨q3, 0, none⟩)] (.panicking ({ v := returnedV n, recovered := false } :: older)) w fun e u' w' => e = .returned (.tuple #[]) ∧ u' = .panicking ({ v := returnedV n, recovered := true } :: older) ∧
      w' = ((w.setCell ⟨q6, 0, none⟩ (.int .i64 n)).setCell ⟨b, 3, none⟩ (.int .i64 (k - 1))).alloc (.cells #[.int .i64 n] 160) := by
  refine callsD_of_wpS Tryz.func82 rfl fun c₀ cs hu => ?_
  apply wpS_seq
  apply wpS_seq
  apply wpS_region
  unfold returnedV at hu
  simp [wpOpsS, go_sem, recoverD, hu, Tryz.ntmps82, Exit.thenS]
  refine wpS_of_wp ?_
  rw [show (#[Value.pointer (some ⟨q6, 0, none⟩), .pointer (some ⟨q3, 0, none⟩)] ++ ((Array.replicate 23 undef).setIfInBounds 3 (.iface 160 (.agg #[.int .i64 n]))).setIfInBounds 0 (.iface 160 (.agg #[.int .i64 n])) : Array Value) = #[.pointer (some ⟨q6, 0, none⟩), .pointer (some ⟨q3, 0, none⟩), .iface 160 (.agg #[.int .i64 n]), undef, undef, .iface 160 (.agg #[.int .i64 n]), undef, undef, undef, undef, undef, undef, undef, undef, undef, undef, undef, undef, undef, undef, undef, undef, undef, undef, undef] from by kernel_rfl]
  have hta := is_returned (.agg #[.int .i64 n]) w
  have l6 : q6 < w.heap.size := World.block_lt_of_cell? w _ h6
  have l3 : q3 < w.heap.size := World.block_lt_of_cell? w _ h3
  have lb : b < w.heap.size := World.block_lt_of_cell? w _ hc
  have n6 : q6 ≠ w.heap.size := by omega
  have n3 : q3 ≠ w.heap.size := by omega
  have nb : b ≠ w.heap.size := by omega
  go_wp2
  simp only [Exit.thenS]
  refine wpS_of_wp ?_
  go_wp2
  clear hta l6 l3 lb n6 n3 nb h6 f6 h3 hc fz h36 hb6
  cases c₀
  simp_all [bodyPostS, results, Tryz.results82, returnedV]
set_option maxRecDepth 100000 in
theorem caught_stop (q6 q3 : Nat) (n : Int) (older : List PanicEntry) (w : World) :
    CallsD Tryz.prog 82 #[.pointer (some ⟨q6, 0, none⟩), .pointer (some ⟨q3, 0, none⟩)] (.panicking ({ v := endedV n, recovered := false } :: older)) w fun e u' w' => e = .panicked [{ v := endedV n, recovered := false }] ∧ u' = .panicking ({ v := endedV n, recovered := true } :: older) ∧
      w' = w.alloc (.cells #[.int .i64 0] 160) := by
  refine callsD_of_wpS Tryz.func82 rfl fun c₀ cs hu => ?_
  apply wpS_seq
  apply wpS_seq
  apply wpS_region
  unfold endedV at hu
  simp [wpOpsS, go_sem, recoverD, hu, Tryz.ntmps82, Exit.thenS]
  refine wpS_of_wp ?_
  rw [show (#[Value.pointer (some ⟨q6, 0, none⟩), .pointer (some ⟨q3, 0, none⟩)] ++ ((Array.replicate 23 undef).setIfInBounds 3 (.iface 107 (.agg #[.int .i64 n]))).setIfInBounds 0 (.iface 107 (.agg #[.int .i64 n])) : Array Value) = #[.pointer (some ⟨q6, 0, none⟩), .pointer (some ⟨q3, 0, none⟩), .iface 107 (.agg #[.int .i64 n]), undef, undef, .iface 107 (.agg #[.int .i64 n]), undef, undef, undef, undef, undef, undef, undef, undef, undef, undef, undef, undef, undef, undef, undef, undef, undef, undef, undef] from by kernel_rfl]
  have hta := isnt_returned (.agg #[.int .i64 n]) w
  go_wp2
  simp only [Exit.thenS]
  clear hta
  cases c₀
  simp_all [bodyPostS, endedV, results, Tryz.results82, endedV]
end Go.Proofs.YtdgedlhefjmcpaaGreatDoor.TreeP
namespace Go.Proofs.YtdgedlhefjmcpaaGreatDoor.TreeP
open Go.RowKit Go.Proofs.YtdgedlhefjmcpaaGreatDoor.Wo
set_option linter.unusedVariables false
set_option linter.unusedSimpArgs false
theorem old_none (o : Old) : o.1.dropWhile (!·.goexit) = [] := by
  obtain ⟨l, h⟩ := o
  induction l with
  | nil => rfl
  | cons x r ih =>
    have h1 := h x (by simp)
    have h2 := ih (fun y hy => h y (by simp [hy]))
    simp only at h2
    simp [List.dropWhile, h1, h2]
theorem rdoor_plain {R : Ending → World → Prop} {tmps : Array Value} {q6 q3 b : Nat} {k : Int} {u : Value} {w : World} (h6 : tmps[6]?.getD undef = .pointer (some ⟨q6, 0, none⟩)) (h3 : w.cell? ⟨q3, 0, none⟩ = some (.pointer (some ⟨b, 0, none⟩))) (hc : w.cell? ⟨b, 3, none⟩ = some (.int .i64 k)) (fz : w.frozen? ⟨b, 3, none⟩ = false) (hk : 1 ≤ k) (hk2 : k ≤ 40)
    (hu : (w.setCell ⟨b, 3, none⟩ (.int .i64 (k - 1))).cell? ⟨q6, 0, none⟩ = some (.int .i64 0)) (hR : R (.returned (.int .i64 0)) (w.setCell ⟨b, 3, none⟩ (.int .i64 (k - 1)))) :
    Leaves Tryz.prog Tryz.f51 tmps R [{ target := Target.fn (Go.Fn.func 82) #[.pointer (some ⟨q6, 0, none⟩), .pointer (some ⟨q3, 0, none⟩)], args := #[] }] .returning w := by
  refine leaves_cons (f := 82) (args := #[.pointer (some ⟨q6, 0, none⟩), .pointer (some ⟨q3, 0, none⟩)]) (by simp) (by simp [go_sem]) ?_
  refine (caught_idle q6 q3 b k w h3 hc fz hk hk2).mono ?_
  rintro e u' w'' ⟨rfl, rfl, rfl⟩
  have HR := Lib.hid hR
  clear hR
  simp [Leaves, settle, results, Tryz.results51, go_sem, h6, hu]
  exact HR.out
theorem door_ret {R : Ending → World → Prop} {tmps : Array Value} {q6 q3 b : Nat} {k n : Int} {u : Value} {w : World} (older : Old) (h6 : tmps[6]?.getD undef = .pointer (some ⟨q6, 0, none⟩)) (h61 : w.cell? ⟨q6, 0, none⟩ = some u) (f6 : w.frozen? ⟨q6, 0, none⟩ = false) (h3 : w.cell? ⟨q3, 0, none⟩ = some (.pointer (some ⟨b, 0, none⟩))) (hc : w.cell? ⟨b, 3, none⟩ = some (.int .i64 k)) (fz : w.frozen? ⟨b, 3, none⟩ = false) (hk : 1 ≤ k) (hk2 : k ≤ 40) (h36 : q3 ≠ q6) (hb6 : b ≠ q6)
    (hu : (((w.setCell ⟨q6, 0, none⟩ (.int .i64 n)).setCell ⟨b, 3, none⟩ (.int .i64 (k - 1))).alloc (.cells #[.int .i64 n] 160)).cell? ⟨q6, 0, none⟩ = some (.int .i64 n)) (hR : R (.returned (.int .i64 n)) (((w.setCell ⟨q6, 0, none⟩ (.int .i64 n)).setCell ⟨b, 3, none⟩ (.int .i64 (k - 1))).alloc (.cells #[.int .i64 n] 160))) :
    Leaves Tryz.prog Tryz.f51 tmps R [{ target := Target.fn (Go.Fn.func 82) #[.pointer (some ⟨q6, 0, none⟩), .pointer (some ⟨q3, 0, none⟩)], args := #[] }] (.panicking ({ v := returnedV n, recovered := false } :: older.1)) w := by
  refine leaves_cons (f := 82) (args := #[.pointer (some ⟨q6, 0, none⟩), .pointer (some ⟨q3, 0, none⟩)]) (by simp) (by simp [go_sem]) ?_
  refine (caught_ret q6 q3 b k n u older.1 w h61 f6 h3 hc fz hk hk2 h36 hb6).mono ?_
  rintro e u' w'' ⟨rfl, rfl, rfl⟩
  have ho := old_none older
  have HR := Lib.hid hR
  clear hR
  obtain ⟨wf, hwf⟩ : ∃ q, q = (((w.setCell ⟨q6, 0, none⟩ (.int .i64 n)).setCell ⟨b, 3, none⟩ (.int .i64 (k - 1))).alloc (.cells #[.int .i64 n] 160)) := ⟨_, rfl⟩
  rw [← hwf] at HR hu ⊢
  clear hwf
  simp [Leaves, settle, ho, results, Tryz.results51, go_sem, h6, hu]
  exact HR.out
theorem door_stop {R : Ending → World → Prop} {tmps : Array Value} {q6 q3 : Nat} {n : Int} {w : World} (older : Old) (hR : ∀ o : Old, R (.panicked ({ v := endedV n, recovered := false } :: o.1)) (w.alloc (.cells #[.int .i64 0] 160))) :
    Leaves Tryz.prog Tryz.f51 tmps R [{ target := Target.fn (Go.Fn.func 82) #[.pointer (some ⟨q6, 0, none⟩), .pointer (some ⟨q3, 0, none⟩)], args := #[] }] (.panicking ({ v := endedV n, recovered := false } :: older.1)) w := by
  refine leaves_cons (f := 82) (args := #[.pointer (some ⟨q6, 0, none⟩), .pointer (some ⟨q3, 0, none⟩)]) (by simp) (by simp [go_sem]) ?_
  refine (caught_stop q6 q3 n older.1 w).mono ?_
  rintro e u' w'' ⟨rfl, rfl, rfl⟩
  exact hR ⟨{ v := endedV n, recovered := true } :: older.1, fun x hx => by
    rcases List.mem_cons.1 hx with rfl | hx
    · rfl
    · exact older.2 x hx⟩
end Go.Proofs.YtdgedlhefjmcpaaGreatDoor.TreeP

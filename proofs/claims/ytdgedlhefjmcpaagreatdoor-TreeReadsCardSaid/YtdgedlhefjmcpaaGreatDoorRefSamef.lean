/- Two programs that are read of one text are the same to the law. No conditions beyond the memory's. -/
import Derived.Test.YtdgedlhefjmcpaaGreatDoorRefSames
import Derived.Laws.StructEq
namespace Go.Proofs.YtdgedlhefjmcpaaGreatDoor.TreeP.R
open Go.RowKit Go.Proofs.YtdgedlhefjmcpaaGreatDoor.Wo Go.Proofs.YtdgedlhefjmcpaaGreatDoor.TreeP
set_option linter.unusedVariables false
set_option linter.unusedSimpArgs false
theorem neq_param (n : ByteArray) (t : Int) (w : World) : (Go.binOp .neq 85 (.agg #[.string n, .int .i64 t]) (.agg #[.string n, .int .i64 t])).run Tryz.prog w = .ok (.bool false) w := by
  have h1 : Tryz.prog.underlying 85 = some (.struct (Tryz.prog.fieldsOf 85)) := by kernel_rfl
  have h2 : Tryz.prog.stoodInHeld 85 = false := by kernel_rfl
  have hs : Tryz.prog.underlying 9 = some .string := by kernel_rfl
  rw [run_neq_struct, run_equalIn_struct w 9999 85 _ _ h1 h2]
  have hf : ((Tryz.prog.fieldsOf 85).toList.map fun f => (f.name, f.type, f.offset)) = [("Name", 9, 0), ("Type", 3, 1)] := by kernel_rfl
  have hi : Tryz.prog.underlying 3 = some (.int .i64) := by kernel_rfl
  have p1 : ∀ (u v : Value) (w : World), (part 9 #[u, v] 0).run Tryz.prog w = .ok u w := fun u v w => by kernel_rfl
  have p2 : ∀ (u v : Value) (w : World), (part 3 #[u, v] 1).run Tryz.prog w = .ok v w := fun u v w => by kernel_rfl
  rcases hl : (Tryz.prog.fieldsOf 85).toList with _ | ⟨f, _ | ⟨g, _ | ⟨h, r⟩⟩⟩
  all_goals rw [hl] at hf
  all_goals simp at hf
  obtain ⟨⟨a1, a2, a3⟩, b1, b2, b3⟩ := hf
  simp only [Op.eqFields, a1, a2, a3, b1, b2, b3]
  simp [p1, p2, run_equalIn_string w 9998 9 n n hs, run_equalIn_int w 9998 3 .i64 .i64 t t hi, Result.andThen]
def FuncsIs (u v : Value) (w : World) : Prop := Calls Tryz.prog 17 #[u, v] w fun e w' => e = .returned (.bool true) ∧ Mods None w w'
set_option maxRecDepth 100000 in
set_option maxHeartbeats 3200000 in
theorem funcs_nil {v v' : Value} {W : World} {vs vs' : List Value} (hr : RowAt W None 33 4 v 0 vs) (hr' : RowAt W None 33 4 v' 0 vs') : FuncsIs v v' W := by
  obtain ⟨pa, pc, rfl⟩ := lex_form hr.1
  obtain ⟨qa, qc, rfl⟩ := lex_form hr'.1
  clear hr hr'
  unfold FuncsIs
  go_enter Tryz.func17, Tryz.ntmps17
  go_wp2_with fail
  refine wp_loop_rounds 1 ?_
  rw [rounds_succ]
  go_wp2
  go_ret
  exact ⟨rfl, Mods.refl _ _⟩
/-- The cells of parameters, one by one. -/
theorem pcells_at : (l : List (List UInt8 × Int)) → (j : Nat) → j < l.length → ∃ n t, (pcells l)[j * 2]? = some (.string n) ∧ (pcells l)[j * 2 + 1]? = some (.int .i64 t)
  | [], j, h => absurd h (Nat.not_lt_zero j)
  | (n, t) :: r, 0, h => ⟨⟨n.toArray⟩, t, rfl, rfl⟩
  | (n, t) :: r, j + 1, h => by
    obtain ⟨m, u, h1, h2⟩ := pcells_at r j (by simpa using h)
    refine ⟨m, u, ?_, ?_⟩
    · rw [show (j + 1) * 2 = j * 2 + 1 + 1 by omega]; exact h1
    · rw [show (j + 1) * 2 + 1 = j * 2 + 1 + 1 + 1 by omega]; exact h2
/-- Two functions' cells, side by side. -/
def PairF (W : World) (cs cs' : List Value) : Prop :=
  ∃ (name : ByteArray) (a : Int) (k : Nat) (pa : Option Addr) (pc : Nat) (pa' : Option Addr) (pc' : Nat) (ba : Option Addr) (bn bc : Nat) (ba' : Option Addr) (bn' bc' : Nat),
    cs = [.string name, .int .i64 a, .slice pa k pc, .slice ba bn bc] ∧ cs' = [.string name, .int .i64 a, .slice pa' k pc', .slice ba' bn' bc'] ∧
    (∀ w, Mods None W w → SamesIs (.slice ba bn bc) (.slice ba' bn' bc') w) ∧
    (∀ j, j < k → ∃ u u', pa = some ⟨u, 0, none⟩ ∧ pa' = some ⟨u', 0, none⟩ ∧ k ≤ pc ∧ pc ≤ 9223372036854775807 ∧ k ≤ pc' ∧ pc' ≤ 9223372036854775807 ∧ ∃ n t, W.cell? ⟨u, j * 2, none⟩ = some (.string n) ∧ W.cell? ⟨u, j * 2 + 1, none⟩ = some (.int .i64 t) ∧ W.cell? ⟨u', j * 2, none⟩ = some (.string n) ∧ W.cell? ⟨u', j * 2 + 1, none⟩ = some (.int .i64 t))
theorem fn_pair {W : World} {x : Fn} {cs cs' : List Value} (h : FnAt W None x cs) (h' : FnAt W None x cs') : PairF W cs cs' := by
  obtain ⟨p, q, vq, rfl, hp, hq, hs⟩ := h
  obtain ⟨p', q', vq', rfl, hp', hq', hs'⟩ := h'
  have hpa := hp
  have hpa' := hp'
  obtain ⟨pa, pc, rfl⟩ := lex_form hp.1
  obtain ⟨pa', pc', rfl⟩ := lex_form hp'.1
  have hqf := hq.form
  have hqf' := hq'.form
  obtain ⟨ba, bn, bc, rfl⟩ := hqf
  obtain ⟨ba', bn', bc', rfl⟩ := hqf'
  refine ⟨⟨x.name.toArray⟩, x.at_, x.params.length, pa, pc, pa', pc', ba, bn, bc, ba', bn', bc', rfl, rfl, fun w hm => sts_same x.body _ _ w (StsIs.mods ⟨_, hq, hs⟩ hm) (StsIs.mods ⟨_, hq', hs'⟩ hm), fun j hj => ?_⟩
  obtain ⟨u, c, he, h1, h2, -, h4⟩ := row_fulls hp.1 (by omega)
  obtain ⟨u', c', he', h1', h2', -, h4'⟩ := row_fulls hp'.1 (by omega)
  cases he
  cases he'
  obtain ⟨n, t, hn, ht⟩ := pcells_at x.params j hj
  exact ⟨u, u', rfl, rfl, h1, h2, h1', h2', n, t, h4 _ _ hn, h4 _ _ ht, h4' _ _ hn, h4' _ _ ht⟩
set_option maxRecDepth 100000 in
set_option maxHeartbeats 6400000 in
theorem funcs_of {L : List Fn} {v v' : Value} {W : World} {vs vs' : List Value} (hne : L.length ≠ 0) (hr : RowAt W None 33 4 v L.length vs) (hst : FnsAt W None L vs) (hr' : RowAt W None 33 4 v' L.length vs') (hst' : FnsAt W None L vs') : FuncsIs v v' W := by
  obtain ⟨q, pc, rfl, hpc, hpc2, hql, hq⟩ := row_fulls hr.1 hne
  obtain ⟨q', qc, rfl, hqc, hqc2, hql', hq'⟩ := row_fulls hr'.1 hne
  have HP := Lib.hid (fun (i : Nat) (hi : i < L.length) => by
    have he := List.getElem?_eq_getElem hi
    obtain ⟨cs, h1, h2⟩ := hst.at_ i _ he
    obtain ⟨cs', h1', h2'⟩ := hst'.at_ i _ he
    exact (⟨cs, cs', fn_pair h1 h1', fun j c hj => hq _ c (h2 j c hj), fun j c hj => hq' _ c (h2' j c hj)⟩ : ∃ cs cs', PairF W cs cs' ∧ (∀ j c, cs[j]? = some c → W.cell? ⟨q, i * 4 + j, none⟩ = some c) ∧ ∀ j c, cs'[j]? = some c → W.cell? ⟨q', i * 4 + j, none⟩ = some c))
  obtain ⟨n, hn⟩ : ∃ n, n = L.length := ⟨_, rfl⟩
  rw [← hn] at HP hpc hqc ⊢
  clear hr hr' hst hst' hq hq' hn hne hql hql'
  unfold FuncsIs
  go_enter Tryz.func17, Tryz.ntmps17
  go_wp2_with fail
  go_loopw [5, 6] (fun iv jv wr => ∃ i : Nat, i ≤ n ∧ iv = .int .i64 i ∧ Hid (Mods None W wr)) (fun iv _ _ => (n - intOf iv).toNat)
  case atStart => exact ⟨0, Nat.zero_le _, rfl, Lib.hid (Mods.refl _ _)⟩
  case round =>
    obtain ⟨i, hi, rfl, HM⟩ := hrel
    by_cases hik : i < n
    · have hlt : (i : Int) < (n : Int) := by omega
      obtain ⟨cs, cs', ⟨name, a, k, pa, pc1, pa', pc2, ba, bn, bc, ba', bn', bc', rfl, rfl, h1, h2⟩, hz, hz'⟩ := HP.out i hik
      have H1 := Lib.hid h1
      have H2 := Lib.hid h2
      unfold SamesIs at H1
      have z0 : wr.cell? ⟨q, i * 4, none⟩ = some (.string name) := HM.out.cellOf (hz 0 _ rfl) (fun f => f)
      have z1 : wr.cell? ⟨q, i * 4 + 1, none⟩ = some (.int .i64 a) := HM.out.cellOf (hz 1 _ rfl) (fun f => f)
      have z2 : wr.cell? ⟨q, i * 4 + 2, none⟩ = some (.slice pa k pc1) := HM.out.cellOf (hz 2 _ rfl) (fun f => f)
      have z3 : wr.cell? ⟨q, i * 4 + 3, none⟩ = some (.slice ba bn bc) := HM.out.cellOf (hz 3 _ rfl) (fun f => f)
      have y0 : wr.cell? ⟨q', i * 4, none⟩ = some (.string name) := HM.out.cellOf (hz' 0 _ rfl) (fun f => f)
      have y1 : wr.cell? ⟨q', i * 4 + 1, none⟩ = some (.int .i64 a) := HM.out.cellOf (hz' 1 _ rfl) (fun f => f)
      have y2 : wr.cell? ⟨q', i * 4 + 2, none⟩ = some (.slice pa' k pc2) := HM.out.cellOf (hz' 2 _ rfl) (fun f => f)
      have y3 : wr.cell? ⟨q', i * 4 + 3, none⟩ = some (.slice ba' bn' bc') := HM.out.cellOf (hz' 3 _ rfl) (fun f => f)
      have HZ2 := Lib.hid (show W.cell? ⟨q, i * 4 + 2, none⟩ = some (.slice pa k pc1) from hz 2 _ rfl)
      have HY2 := Lib.hid (show W.cell? ⟨q', i * 4 + 2, none⟩ = some (.slice pa' k pc2) from hz' 2 _ rfl)
      clear h1 h2 hz hz'
      go_wp2_with fail
      go_region_held3 (fun w' => Hid (Mods None W w') ∧ w'.cell? ⟨q, i * 4, none⟩ = some (.string name) ∧ w'.cell? ⟨q, i * 4 + 1, none⟩ = some (.int .i64 a) ∧ w'.cell? ⟨q, i * 4 + 2, none⟩ = some (.slice pa k pc1) ∧ w'.cell? ⟨q, i * 4 + 3, none⟩ = some (.slice ba bn bc) ∧ w'.cell? ⟨q', i * 4, none⟩ = some (.string name) ∧ w'.cell? ⟨q', i * 4 + 1, none⟩ = some (.int .i64 a) ∧ w'.cell? ⟨q', i * 4 + 2, none⟩ = some (.slice pa' k pc2) ∧ w'.cell? ⟨q', i * 4 + 3, none⟩ = some (.slice ba' bn' bc'))
        (first
          | exact ⟨Lib.hid HM.out.drew, z0, z1, z2, z3, y0, y1, y2, y3⟩
          | assumption
          | (go_split_ands; exact ⟨Lib.hid (Mods.trans (Hid.out ‹_›) hmm), hmm.cellOf ‹_› (fun f => f), hmm.cellOf ‹_› (fun f => f), hmm.cellOf ‹_› (fun f => f), hmm.cellOf ‹_› (fun f => f), hmm.cellOf ‹_› (fun f => f), hmm.cellOf ‹_› (fun f => f), hmm.cellOf ‹_› (fun f => f), hmm.cellOf ‹_› (fun f => f)⟩))
        ((go_at_call 49; go_split_ands; refine (H1.out _ (Hid.out ‹Hid (Mods None W _)›)).mono ?_; rintro e w' ⟨rfl, hmm⟩))
      have HW := Lib.hid (HM.out.drew.trans hmm)
      rename_i hHeld
      clear hHeld hmm z0 z1 z2 z3 y0 y1 y2 y3
      go_wp2_with fail
      go_loopw [6] (fun jv wr2 => ∃ j : Nat, j ≤ k ∧ jv = .int .i64 j ∧ Hid (Mods None W wr2)) (fun jv _ => (k - intOf jv).toNat)
      case atStart => exact ⟨0, Nat.zero_le _, rfl, HW⟩
      case round =>
        clear HW
        obtain ⟨j, hj, rfl, HW⟩ := hrel
        have e2 := HW.out.cellOf HZ2.out (fun f => f)
        have b2 := HW.out.cellOf HY2.out (fun f => f)
        by_cases hjk : j < k
        · obtain ⟨u, u', hpu, hpu', hk1, hk2, hk3, hk4, nm, ty, w0, w1, w2, w3⟩ := H2.out j hjk
          rw [hpu] at e2
          rw [hpu'] at b2
          have x0 := HW.out.cellOf w0 (fun f => f)
          have x1 := HW.out.cellOf w1 (fun f => f)
          have x2 := HW.out.cellOf w2 (fun f => f)
          have x3 := HW.out.cellOf w3 (fun f => f)
          have hne := neq_param nm ty
          have hjlt : (j : Int) < (k : Int) := by omega
          clear hpu hpu' w0 w1 w2 w3
          go_wp2_with fail
          go_quiet (fail)
          go_wp2_with fail
          exact ⟨⟨j + 1, by omega, by go_num, Lib.hid (by first | exact HW.out | exact HW.out.drewN _)⟩, by simp [intOf]; omega⟩
        · have hjge : ¬ (j : Int) < (k : Int) := by omega
          go_wp2_with fail
          exact ⟨⟨i + 1, by omega, by go_num, HW⟩, by simp [intOf]; omega⟩
    have hge : ¬ (i : Int) < (n : Int) := by omega
    go_wp2
    go_ret
    exact ⟨rfl, HM.out⟩
theorem funcs_same {L : List Fn} {v v' : Value} {W : World} {vs vs' : List Value} (hr : RowAt W None 33 4 v L.length vs) (hst : FnsAt W None L vs) (hr' : RowAt W None 33 4 v' L.length vs') (hst' : FnsAt W None L vs') : FuncsIs v v' W := by
  by_cases h : L.length = 0
  · rw [h] at hr hr'
    exact funcs_nil hr hr'
  · exact funcs_of h hr hst hr' hst'
end Go.Proofs.YtdgedlhefjmcpaaGreatDoor.TreeP.R
